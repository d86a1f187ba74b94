/- Any operation that enters no function: the machine's answer, and that it is the model's. -/
import Derived.Test.YtcccapeaeehjiaaGreatDoorAMh
namespace Go.Proofs.YtcccapeaeehjiaaGreatDoor.AM
noncomputable section
open Go Go.RowKit
set_option linter.unusedVariables false
set_option linter.unusedSimpArgs false
abbrev Res := Option (Value × Nat × Tr AObj)
def isEq : BinOp → Bool
  | .eql => true
  | .neq => true
  | _ => false
def keepR (nx : Nat) (h : Tr AObj) (v : Option Value) : Res := v.bind fun v => some (v, nx, h)
/-- The operation's answer, the next free number, the memory. -/
def aopV (P : Program) (ρ : Operand → Option Value) (nx : Nat) (h : Tr AObj) (o : Oper) : Res :=
  match o.op with
  | .move x => keepR nx h (ρ x)
  | .assign x => keepR nx h (ρ x)
  | .pick c a b => match ρ c with
    | some (.bool t) => keepR nx h (if t then ρ a else ρ b)
    | _ => none
  | .alloc t => aalloc P nx h t
  | .box t x => (ρ x).bind fun v => abox nx h t v
  | .build t ps => (aparts ρ ps.toList).bind fun ps => keepR nx h (abuild P t ps.toArray)
  | .buildSlice t n ps => (aparts ρ ps.toList).bind fun ps => abuildSlice P nx h t n ps.toArray
  | .load t a => (ρ a).bind fun a => keepR nx h (aload P h t a)
  | .store t a x => (ρ a).bind fun a => (ρ x).bind fun x => (astore P h t a x).bind fun h => some (undef, nx, h)
  | .nilCheck x => match ρ x with
    | some (.pointer (some a)) => some (.pointer (some a), nx, h)
    | some (.func (.func f) fs cs) => some (.func (.func f) fs cs, nx, h)
    | _ => keepR nx h (apure P ρ o)
  | .binOp op t x y _ => match ρ x, ρ y with
    | some u, some v => match abin P op u v with
      | some r => some (r, nx, h)
      | none => if anil P t u v && isEq op then some (.bool (op == .neq), nx, h) else keepR nx h (apure P ρ o)
    | _, _ => none
  | .convert s d x => match ρ x with
    | some (.int k n) => match P.underlying s, P.underlying d with
      | some _, some (.int k2) => some (.int k2 (k2.wrap n), nx, h)
      | _, _ => keepR nx h (apure P ρ o)
    | some (.slice a n c) => keepR nx h (abytesToString P h s d (.slice a n c))
    | some (.string b) => match apure P ρ o with
      | some v => some (v, nx, h)
      | none => astringToBytes P nx h s d (.string b)
    | _ => keepR nx h (apure P ρ o)
  | .fieldAddr s x f => (ρ x).bind fun x => keepR nx h (afieldAddr P s f x)
  | .field s x f => (ρ x).bind fun x => keepR nx h (afield P s f x)
  | .indexAddr t x i => (ρ x).bind fun x => (ρ i).bind fun i => keepR nx h (aindexAddr P t x i)
  | .extract x i => (ρ x).bind fun x => keepR nx h (aextract i x)
  | .makeSlice t l c => (ρ l).bind fun l => (ρ c).bind fun c => amake P nx h t l c
  | .makeFunc fn fs cs => match fn, fs.toList with
    | .func f, [] => (acaps ρ cs.toList).bind fun cs => some (.func (.func f) #[] cs.toArray, nx, h)
    | _, _ => none
  | .slice t x lo hi mx => match ρ x with
    | some (.slice (some a) n c) => if lo.all (fun x => (ρ x).isSome) && hi.all (fun x => (ρ x).isSome) && mx.all (fun x => (ρ x).isSome) then keepR nx h (aslice P h t (.slice (some a) n c) (lo.bind ρ) (hi.bind ρ) (mx.bind ρ)) else none
    | _ => keepR nx h (apure P ρ o)
  | .call c => match c.callee with
    | .builtin .len => match c.args.toList, c.argTypes.toList with
      | [x], [t] => match ρ x with
        | some (.slice a n q) => keepR nx h (alen P t (.slice a n q))
        | _ => keepR nx h (apure P ρ o)
      | _, _ => none
    | .builtin .append => match c.args.toList, c.argTypes.toList with
      | [x, y], [t, u] => (ρ x).bind fun x => (ρ y).bind fun y => aappend P nx h t u x y
      | _, _ => none
    | .builtin .copy => match c.args.toList, c.argTypes.toList with
      | [x, y], [t, u] => (ρ x).bind fun x => (ρ y).bind fun y => (acopy P h t x y).bind fun r => some (r.1, nx, r.2)
      | _, _ => none
    | .builtin _ => keepR nx h (apure P ρ o)
    | _ => none
  | .unOp op t x => (ρ x).bind fun u => if flatV u then (pureRun P (Op.unary op u)).bind fun r => if flatV r then some (r, nx, h) else none else none
  | .index t x i => (ρ x).bind fun u => (ρ i).bind fun j => if flatV u && flatV j then (pureRun P (Instr.index t u j)).bind fun r => if flatV r then some (r, nx, h) else none else none
  | _ => none
section
variable {P : Program} {F : Nat → Prop} {w0 w : World} {m : M} {h : Tr AObj} {nx : Nat}
theorem keepR_inv {v0 : Option Value} {v : Value} {n' : Nat} {h' : Tr AObj} (e : keepR nx h v0 = some (v, n', h')) : v0 = some v ∧ n' = nx ∧ h' = h := by
  unfold keepR at e
  replace e := Option.bind_eq_some_iff.1 e
  obtain ⟨u, hu, e⟩ := e
  simp only [Option.some.injEq, Prod.mk.injEq] at e
  obtain ⟨rfl, rfl, rfl⟩ := e
  exact ⟨hu, rfl, rfl⟩
theorem run_next {s : Sem Value} {v : Value} {w' : World} (hr : s.run P w = .ok v w') : (do let x ← s; pure (Next.value x)).run P w = .ok (.value v) w' := by
  simp only [Sem.run_bind, hr, Result.andThen_ok, Sem.run_pure]
theorem aopV_sound (R : Rel F w0 m h w) {ρ : Operand → Option Value} {ρ' : Operand → Value} (hρ : ∀ x v, ρ x = some v → VR m v (ρ' x)) {o : Oper} {v : Value} {n' : Nat} {h' : Tr AObj}
    (hf : ∀ i, nx ≤ i → i < n' → ¬ m.dom i) (e : aopV P ρ nx h o = some (v, n', h')) : NOk P F w0 m w (execOp ρ' o) v nx n' h' := by
  have hp : ∀ {o : Oper}, keepR nx h (apure P ρ o) = some (v, n', h') → NOk P F w0 m w (execOp ρ' o) v nx n' h' := by
    intro o e1
    obtain ⟨e2, e3, e4⟩ := keepR_inv e1
    rw [e3, e4]
    exact apure_sound R hρ e2
  unfold aopV at e
  split at e
  case h_1 x ho =>
    replace e := keepR_inv e
    obtain ⟨e, rfl, rfl⟩ := e
    unfold execOp; rw [ho]
    exact NOk.same R (v' := ρ' x) rfl (hρ x v e)
  case h_2 x ho =>
    replace e := keepR_inv e
    obtain ⟨e, rfl, rfl⟩ := e
    unfold execOp; rw [ho]
    exact NOk.same R (v' := ρ' x) rfl (hρ x v e)
  case h_3 c a b ho =>
    split at e
    · rename_i t ht
      replace e := keepR_inv e
      obtain ⟨e, rfl, rfl⟩ := e
      unfold execOp; rw [ho]
      have := (hρ c _ ht).inv_bool
      refine NOk.same R (v' := if t then ρ' a else ρ' b) ?_ (by cases t <;> exact hρ _ v e)
      simp only [this, asBool, Sem.run_bind, Sem.run_pure, Result.andThen_ok]
    · cases e
  case h_4 t ho =>
    unfold execOp; rw [ho]
    exact ok_next (aalloc_sound R hf e)
  case h_5 t x ho =>
    replace e := Option.bind_eq_some_iff.1 e
    obtain ⟨u, hu, e⟩ := e
    unfold execOp; rw [ho]
    exact ok_next (abox_sound R (hρ x u hu) hf e)
  case h_6 t ps ho =>
    replace e := Option.bind_eq_some_iff.1 e
    obtain ⟨qs, hq, e⟩ := e
    replace e := keepR_inv e
    obtain ⟨e, rfl, rfl⟩ := e
    unfold execOp; rw [ho]
    exact ok_next (abuild_sound R (by simpa using aparts_sound hρ hq) e)
  case h_7 t k ps ho =>
    replace e := Option.bind_eq_some_iff.1 e
    obtain ⟨qs, hq, e⟩ := e
    unfold execOp; rw [ho]
    exact ok_next (abuildSlice_sound R (by simpa using aparts_sound hρ hq) hf e)
  case h_8 t a ho =>
    replace e := Option.bind_eq_some_iff.1 e
    obtain ⟨u, hu, e⟩ := e
    replace e := keepR_inv e
    obtain ⟨e, rfl, rfl⟩ := e
    unfold execOp; rw [ho]
    exact ok_next (aload_sound R (hρ a u hu) e)
  case h_9 t a x ho =>
    replace e := Option.bind_eq_some_iff.1 e
    obtain ⟨u, hu, e⟩ := e
    replace e := Option.bind_eq_some_iff.1 e
    obtain ⟨y, hy, e⟩ := e
    replace e := Option.bind_eq_some_iff.1 e
    obtain ⟨q, hq, e⟩ := e
    simp only [Option.some.injEq, Prod.mk.injEq] at e
    obtain ⟨rfl, rfl, rfl⟩ := e
    obtain ⟨w', h1, h2⟩ := astore_sound (P := P) R (hρ a u hu) (hρ x y hy) hq
    unfold execOp; rw [ho]
    refine ⟨m, undef, w', .inr ⟨?_, rfl⟩, Ext.refl m, dom_same _ _, VR.undef m, h2⟩
    simp only [Sem.run_bind, h1, Result.andThen_ok, Sem.run_pure]
  case h_10 x ho =>
    split at e
    · rename_i a ha
      simp only [Option.some.injEq, Prod.mk.injEq] at e
      obtain ⟨rfl, rfl, rfl⟩ := e
      obtain ⟨k1, k2⟩ := (hρ x _ ha).inv_ptr
      refine NOk.same R (v' := ρ' x) ?_ (hρ x _ ha)
      unfold execOp; rw [ho]
      simp only [k2, Sem.run_pure]
    · rename_i f fs cs ha
      simp only [Option.some.injEq, Prod.mk.injEq] at e
      obtain ⟨rfl, rfl, rfl⟩ := e
      obtain ⟨cs', k2⟩ := (hρ x _ ha).inv_fn
      refine NOk.same R (v' := ρ' x) ?_ (hρ x _ ha)
      unfold execOp; rw [ho]
      simp only [k2, Sem.run_pure]
    · exact hp e
  case h_11 op t x y yt ho =>
    split at e
    · rename_i u v1 hu hv
      split at e
      · rename_i r hr
        simp only [Option.some.injEq, Prod.mk.injEq] at e
        obtain ⟨rfl, rfl, rfl⟩ := e
        obtain ⟨k1, k2, k3, k4, k5⟩ := abin_sound (P := P) (w := w) (t := t) (x := x) (y := y) hr
        have e1 := flatV_eq k4 (hρ x u hu)
        have e2 := flatV_eq k5 (hρ y v1 hv)
        refine NOk.same R (v' := r) ?_ (flatV_VR m k3)
        unfold execOp; rw [ho]
        simp only [Sem.run_bind, e1, e2, k1, k2, Result.andThen_ok, Sem.run_pure]
      split at e
      · rename_i hc
        simp only [Bool.and_eq_true] at hc
        simp only [Option.some.injEq, Prod.mk.injEq] at e
        obtain ⟨rfl, rfl, rfl⟩ := e
        have hop : op = .eql ∨ op = .neq := by
          have := hc.2
          cases op <;> first | exact .inl rfl | exact .inr rfl | cases this
        obtain ⟨k1, k2⟩ := anil_sound (P := P) (w := w) (x := x) (y := y) (hρ x u hu) (hρ y v1 hv) hop hc.1
        refine NOk.same R (v' := .bool (op == .neq)) ?_ (VR.flat rfl)
        unfold execOp; rw [ho]
        simp only [Sem.run_bind, k1, k2, Result.andThen_ok, Sem.run_pure]
      · exact hp e
    · cases e
  case h_12 s d x ho =>
    split at e
    · rename_i k n ha
      split at e
      · rename_i td k2 hs hd
        simp only [Option.some.injEq, Prod.mk.injEq] at e
        obtain ⟨rfl, rfl, rfl⟩ := e
        refine NOk.same R (v' := .int k2 (k2.wrap n)) ?_ (VR.flat rfl)
        unfold execOp; rw [ho]
        have := (hρ x _ ha).inv_int
        refine run_next ?_
        rw [this]
        unfold convert
        simp only [Sem.run_bind, run_underlying hs, run_underlying hd, Result.andThen_ok, Conv.intToInt, Sem.run_pure]
      · exact hp e
    · rename_i a k c ha
      replace e := keepR_inv e
      obtain ⟨e, rfl, rfl⟩ := e
      unfold execOp; rw [ho]
      exact ok_next (abytesToString_sound R (hρ x _ ha) e)
    · rename_i b ha
      split at e
      · rename_i u hu
        simp only [Option.some.injEq, Prod.mk.injEq] at e
        obtain ⟨rfl, rfl, rfl⟩ := e
        exact apure_sound R hρ hu
      · unfold execOp; rw [ho]
        exact ok_next (astringToBytes_sound R (hρ x _ ha) hf e)
    · exact hp e
  case h_13 s x f ho =>
    replace e := Option.bind_eq_some_iff.1 e
    obtain ⟨u, hu, e⟩ := e
    replace e := keepR_inv e
    obtain ⟨e, rfl, rfl⟩ := e
    unfold execOp; rw [ho]
    exact ok_next (afieldAddr_sound R (hρ x u hu) e)
  case h_14 s x f ho =>
    replace e := Option.bind_eq_some_iff.1 e
    obtain ⟨u, hu, e⟩ := e
    replace e := keepR_inv e
    obtain ⟨e, rfl, rfl⟩ := e
    unfold execOp; rw [ho]
    exact ok_next (afield_sound R (hρ x u hu) e)
  case h_15 t x i ho =>
    replace e := Option.bind_eq_some_iff.1 e
    obtain ⟨u, hu, e⟩ := e
    replace e := Option.bind_eq_some_iff.1 e
    obtain ⟨y, hy, e⟩ := e
    replace e := keepR_inv e
    obtain ⟨e, rfl, rfl⟩ := e
    unfold execOp; rw [ho]
    exact ok_next (aindexAddr_sound R (hρ x u hu) (hρ i y hy) e)
  case h_16 x i ho =>
    replace e := Option.bind_eq_some_iff.1 e
    obtain ⟨u, hu, e⟩ := e
    replace e := keepR_inv e
    obtain ⟨e, rfl, rfl⟩ := e
    unfold execOp; rw [ho]
    exact ok_next (aextract_sound R (hρ x u hu) e)
  case h_17 t l c ho =>
    replace e := Option.bind_eq_some_iff.1 e
    obtain ⟨u, hu, e⟩ := e
    replace e := Option.bind_eq_some_iff.1 e
    obtain ⟨y, hy, e⟩ := e
    unfold execOp; rw [ho]
    exact ok_next (amake_sound R (hρ l u hu) (hρ c y hy) hf e)
  case h_18 fn fs cs ho =>
    split at e
    · rename_i f hfs
      replace e := Option.bind_eq_some_iff.1 e
      obtain ⟨u, hu, e⟩ := e
      simp only [Option.some.injEq, Prod.mk.injEq] at e
      obtain ⟨rfl, rfl, rfl⟩ := e
      have hfs' : fs = #[] := Array.ext' hfs
      have hL := acaps_sound hρ hu
      refine NOk.same R (v' := .func (.func f) #[] (cs.map ρ')) ?_ (.cell (.fn f u.toArray (cs.map ρ') ?_ ?_))
      · unfold execOp; rw [ho, hfs']
        show (do let x ← Instr.makeFunc (.func f) ((#[] : Array Operand).map ρ') (cs.map ρ'); pure (Next.value x)).run P w = _
        rw [Array.map_empty]
        rfl
      · have := hL.len
        simp only [List.length_map, Array.length_toList] at this
        simp [this]
      · intro i y hy
        obtain ⟨y', h1, a, rfl, h3, rfl⟩ := hL.get i y (by simpa using hy)
        exact ⟨a, rfl, h3, by simpa using h1⟩
    · cases e
  case h_19 t x lo hi mx ho =>
    split at e
    · rename_i a k c ha
      split at e
      · rename_i hc
        simp only [Bool.and_eq_true] at hc
        replace e := keepR_inv e
        obtain ⟨e, rfl, rfl⟩ := e
        unfold execOp; rw [ho]
        have q : ∀ (z : Option Operand), z.all (fun x => (ρ x).isSome) = true → (∀ v, z.bind ρ = some v → ∃ v', z.map ρ' = some v' ∧ VR m v v') ∧ (z.bind ρ = none → z.map ρ' = none) := by
          intro z hz
          cases z with
          | none => exact ⟨fun v hv => by simp at hv, fun _ => rfl⟩
          | some z =>
            refine ⟨fun v hv => ⟨ρ' z, rfl, hρ z v hv⟩, fun hn => ?_⟩
            simp only [Option.all_some] at hz
            rw [Option.bind_some] at hn
            rw [hn] at hz; cases hz
        exact ok_next (aslice_sound R (hρ x _ ha) (q lo hc.1.1).1 (q lo hc.1.1).2 (q hi hc.1.2).1 (q hi hc.1.2).2 (q mx hc.2).1 (q mx hc.2).2 e)
      · cases e
    · exact hp e
  case h_20 c ho =>
    split at e
    · rename_i hcl
      split at e
      · rename_i x t hx ht
        split at e
        · rename_i a k q ha
          replace e := keepR_inv e
          obtain ⟨e, rfl, rfl⟩ := e
          have hx' : c.args = #[x] := Array.ext' hx
          have ht' : c.argTypes = #[t] := Array.ext' ht
          unfold execOp; rw [ho]
          have := ok_next (nx := n') (alen_sound (ty := o.type) (nx := n') R (hρ x _ ha) e)
          simpa only [resolve, hcl, hx', ht', invoke, builtin, List.map_toArray, List.map_cons, List.map_nil, Sem.run_bind, pure_bind] using this
        · exact hp e
      · cases e
    · rename_i hcl
      split at e
      · rename_i x y t u hx ht
        replace e := Option.bind_eq_some_iff.1 e
        obtain ⟨xv, hxv, e⟩ := e
        replace e := Option.bind_eq_some_iff.1 e
        obtain ⟨yv, hyv, e⟩ := e
        have hx' : c.args = #[x, y] := Array.ext' hx
        have ht' : c.argTypes = #[t, u] := Array.ext' ht
        unfold execOp; rw [ho]
        have := ok_next (aappend_sound (ty := o.type) R (hρ x _ hxv) (hρ y _ hyv) hf e)
        simpa only [resolve, hcl, hx', ht', invoke, builtin, List.map_toArray, List.map_cons, List.map_nil, Sem.run_bind, pure_bind] using this
      · cases e
    · rename_i hcl
      split at e
      · rename_i x y t u hx ht
        replace e := Option.bind_eq_some_iff.1 e
        obtain ⟨xv, hxv, e⟩ := e
        replace e := Option.bind_eq_some_iff.1 e
        obtain ⟨yv, hyv, e⟩ := e
        replace e := Option.bind_eq_some_iff.1 e
        obtain ⟨⟨q1, q2⟩, hq, e⟩ := e
        simp only [Option.some.injEq, Prod.mk.injEq] at e
        obtain ⟨rfl, rfl, rfl⟩ := e
        have hx' : c.args = #[x, y] := Array.ext' hx
        have ht' : c.argTypes = #[t, u] := Array.ext' ht
        unfold execOp; rw [ho]
        have := ok_next (nx := nx) (acopy_sound (ty := o.type) (nx := nx) (tS := u) R (hρ x _ hxv) (hρ y _ hyv) hq)
        simpa only [resolve, hcl, hx', ht', invoke, builtin, List.map_toArray, List.map_cons, List.map_nil, Sem.run_bind, pure_bind] using this
      · cases e
    · exact hp e
    · cases e
  case h_21 op t x ho =>
    replace e := Option.bind_eq_some_iff.1 e
    obtain ⟨u, hu, e⟩ := e
    split at e
    · rename_i hfu
      replace e := Option.bind_eq_some_iff.1 e
      obtain ⟨r, hr, e⟩ := e
      split at e
      · rename_i hfr
        simp only [Option.some.injEq, Prod.mk.injEq] at e
        obtain ⟨rfl, rfl, rfl⟩ := e
        refine NOk.same R (v' := r) ?_ (flatV_VR m hfr)
        unfold execOp; rw [ho]
        refine run_next ?_
        rw [flatV_eq hfu (hρ x u hu)]
        exact pureRun_run _ _ hr w
      · cases e
    · cases e
  case h_22 t x i ho =>
    replace e := Option.bind_eq_some_iff.1 e
    obtain ⟨u, hu, e⟩ := e
    replace e := Option.bind_eq_some_iff.1 e
    obtain ⟨j, hj, e⟩ := e
    split at e
    · rename_i hfu
      simp only [Bool.and_eq_true] at hfu
      replace e := Option.bind_eq_some_iff.1 e
      obtain ⟨r, hr, e⟩ := e
      split at e
      · rename_i hfr
        simp only [Option.some.injEq, Prod.mk.injEq] at e
        obtain ⟨rfl, rfl, rfl⟩ := e
        refine NOk.same R (v' := r) ?_ (flatV_VR m hfr)
        unfold execOp; rw [ho]
        refine run_next ?_
        rw [flatV_eq hfu.1 (hρ x u hu), flatV_eq hfu.2 (hρ i j hj)]
        exact pureRun_run _ _ hr w
      · cases e
    · cases e
  case h_23 => cases e
end
end
end Go.Proofs.YtcccapeaeehjiaaGreatDoor.AM
