/- More operations: a slice turned to its own type, runes turned to a string, an array cut, a call without a body. -/
import Derived.Test.YtcccapeaeehjiaaGreatDoorAM2
import Derived.Laws.Cover4
namespace Go.Proofs.YtcccapeaeehjiaaGreatDoor.AM
noncomputable section
open Go Go.RowKit
set_option linter.unusedVariables false
set_option linter.unusedSimpArgs false
def runes? : List Value → Option (List Int)
  | [] => some []
  | .int .i32 n :: l => (runes? l).bind fun r => some (n :: r)
  | _ => none
/-- '[]byte' of what is one. -/
def asame (P : Program) (h : Tr AObj) (s d : Nat) (a : Addr) (n c : Nat) : Option Value :=
  match P.underlying s, P.underlying d with
  | some (.slice _), some (.slice e) => match P.underlying e with
    | some (.int .u8) => (h.get a.block).bind fun o => if s = d ∧ o.own = true ∧ o.es = 1 ∧ c = 1 then some (.slice (some a) n c) else none
    | _ => none
  | _, _ => none
def arunes (P : Program) (h : Tr AObj) (s d : Nat) (a : Addr) (n : Nat) : Option Value :=
  match P.underlying s, P.underlying d with
  | some (.slice e), some .string => match P.underlying e with
    | some (.int .i32) => (agets h a.block a.off n).bind fun vs => (runes? vs).bind fun l => some (.string (runesBytes l))
    | _ => none
  | _, _ => none
def acutA (P : Program) (h : Tr AObj) (t : Nat) (a : Addr) (lo hi : Option Value) : Option Value :=
  match P.underlying t with
  | some (.array n e) => (bnd lo 0).bind fun l => (bnd hi n).bind fun u => (tsize P e).bind fun s => (h.get a.block).bind fun o =>
      if l < u ∧ u ≤ n ∧ n ≤ 1000000 ∧ o.own = true ∧ o.es = 0 ∧ a.off + n * s ≤ o.cells.length then some (.slice (some ⟨a.block, a.off + l * s, none⟩) (u - l) 1) else none
  | _ => none
def aopE (P : Program) (ρ : Operand → Option Value) (nx : Nat) (h : Tr AObj) (o : Oper) : Res :=
  match o.op with
  | .convert s d x => match ρ x with
    | some (.slice (some a) n c) => match asame P h s d a n c with
      | some v => some (v, nx, h)
      | none => if c = 1 then keepR nx h (arunes P h s d a n) else none
    | _ => none
  | .slice t x lo hi none => match ρ x with
    | some (.pointer (some a)) => if lo.all (fun x => (ρ x).isSome) && hi.all (fun x => (ρ x).isSome) then keepR nx h (acutA P h t a (lo.bind ρ) (hi.bind ρ)) else none
    | _ => none
  | .call c => match c.callee with
    | .value _ => keepR nx h (apure P ρ o)
    | _ => none
  | .range t x => (ρ x).bind (arange P nx h t)
  | .next x b => match ρ x with
    | some (.pointer (some a)) => if b then anext nx h a else none
    | _ => none
  | _ => none
theorem anext_nx {nx : Nat} {h : Tr AObj} {a : Addr} {v : Value} {n' : Nat} {h' : Tr AObj} (e : anext nx h a = some (v, n', h')) : n' = nx := by
  unfold anext at e
  obtain ⟨o, ho, e⟩ := Option.bind_eq_some_iff.1 e
  split at e
  · obtain ⟨⟨s, p⟩, hs, e⟩ := Option.bind_eq_some_iff.1 e
    by_cases hp : p < s.size
    · simp only [if_pos hp] at e
      split at e
      · simp only [Option.some.injEq, Prod.mk.injEq] at e; exact e.2.1.symm
      · cases e
    · simp only [if_neg hp, Option.some.injEq, Prod.mk.injEq] at e
      exact e.2.1.symm
  · cases e
theorem arange_nx {P : Program} {nx : Nat} {h : Tr AObj} {t : Nat} {x : Value} {v : Value} {n' : Nat} {h' : Tr AObj} (e : arange P nx h t x = some (v, n', h')) : n' = nx + 1 := by
  unfold arange at e
  split at e
  · simp only [Option.some.injEq, Prod.mk.injEq] at e; exact e.2.1.symm
  · cases e
theorem aopE_nx {P : Program} {ρ : Operand → Option Value} {nx : Nat} {h : Tr AObj} {o : Oper} {v : Value} {n' : Nat} {h' : Tr AObj} (e : aopE P ρ nx h o = some (v, n', h')) : nx ≤ n' := by
  unfold aopE at e
  split at e
  · split at e
    · split at e
      · simp only [Option.some.injEq, Prod.mk.injEq] at e; exact Nat.le_of_eq e.2.1
      · split at e
        · exact Nat.le_of_eq (keepR_inv e).2.1.symm
        · cases e
    · cases e
  · split at e
    · split at e
      · exact Nat.le_of_eq (keepR_inv e).2.1.symm
      · cases e
    · cases e
  · split at e
    · exact Nat.le_of_eq (keepR_inv e).2.1.symm
    · cases e
  · obtain ⟨x, _, e⟩ := Option.bind_eq_some_iff.1 e
    rw [arange_nx e]; exact Nat.le_succ _
  · split at e
    · split at e
      · exact Nat.le_of_eq (anext_nx e).symm
      · cases e
    · cases e
  · cases e
section
variable {P : Program} {F : Nat → Prop} {w0 w : World} {m : M} {h : Tr AObj} {nx : Nat}
theorem runes?_cells : ∀ {vs vs' : List Value} {l : List Int}, L2 (CR m) vs vs' → runes? vs = some l → vs' = l.map (Value.int .i32)
  | [], _, l, .nil, e => by unfold runes? at e; injection e with e; subst e; rfl
  | v :: vs, _ :: vs', l, .cons r t, e => by
    cases v with
    | int k n => cases k with
      | i32 =>
        unfold runes? at e
        obtain ⟨q, h2, he⟩ := Option.bind_eq_some_iff.1 e
        injection he with he
        subst he
        rw [flatC_eq rfl r, runes?_cells t h2]; rfl
      | _ => cases e
    | _ => cases e
theorem arunes_sound (R : Rel F w0 m h w) {src dst : Nat} {a : Addr} {n : Nat} {x' v : Value} (hx : VR m (.slice (some a) n 1) x') (e : arunes P h src dst a n = some v) : Ok P F w0 m w (convert src dst x') v nx nx h := by
  unfold arunes at e
  split at e
  · rename_i el hs hd
    split at e
    · rename_i hel
      obtain ⟨vs, hvs, e⟩ := Option.bind_eq_some_iff.1 e
      obtain ⟨l, hl, e⟩ := Option.bind_eq_some_iff.1 e
      injection e with e
      subst e
      obtain ⟨vs', k1, k2, k3⟩ := agets_sound R hvs
      have hlen := agets_len hvs
      have hL : L2 (CR m) vs vs' := L2.of_get (by omega) k3
      have hv := runes?_cells hL hl
      rcases hx.inv_slc with ⟨_, c', rfl, hb, _, _⟩ | ⟨h0, _⟩
      · have hload := run_loadCells_list (P := P) w (mv m a) vs' k2
        rw [k1, hv] at hload
        refine Ok.pure R (v' := .string (runesBytes l)) ?_ (.flat rfl)
        rw [run_convert_runes_string w src dst el _ _ _ hs hel hd]
        exact run_runesToString w _ n c' l hload
      · cases h0
    · cases e
  · cases e
theorem shape_of_cells {w : World} {g : Nat} {cur : Array Value} {t : TypeId} {fr : Nat × Nat} (h : w.heap[g]? = some (.cells cur t fr)) : w.shape? g = some (t, cur.size) := by
  unfold World.shape?
  rw [h]
theorem asame_sound (R : Rel F w0 m h w) {src dst : Nat} {a : Addr} {n c : Nat} {x' v : Value} (hx : VR m (.slice (some a) n c) x') (e : asame P h src dst a n c = some v) : Ok P F w0 m w (convert src dst x') v nx nx h := by
  unfold asame at e
  split at e
  · rename_i e0 el hs hd
    split at e
    · rename_i hel
      obtain ⟨o, ho, e⟩ := Option.bind_eq_some_iff.1 e
      split at e
      · rename_i hcond
        injection e with e
        subst e
        obtain ⟨rfl, hown, hes, rfl⟩ := hcond
        obtain ⟨c', rfl, hb, hnc, hsz, hmx⟩ : ∃ c', x' = .slice (some (mv m a)) n c' ∧ m.dom a.block ∧ n ≤ c' ∧ a.off + c' * m.es a.block ≤ m.sz a.block ∧ True := by
          rcases hx.inv_slc with ⟨_, c', rfl, h1, h2, h3⟩ | ⟨h0, _⟩
          · exact ⟨c', rfl, h1, h2, h3, trivial⟩
          · cases h0
        obtain ⟨g, cur, fr, h1, h2, h3, h4, h5, h6, h7⟩ := R.own _ o ho hown
        have hmb : (mv m a).block = g := by unfold mv; rw [h1]
        have hei : o.es ≠ ITER := by rw [hes]; decide
        replace h3 := h3.row hei
        have hsh : w.shape? g = some (o.elem, cur.size) := shape_of_cells h3
        have hrun : (convert src src (.slice (some (mv m a)) n c')).run P w = .ok (.slice (some (mv m a)) n c') (w.freeze ⟨g, cur.size, none⟩ 1) := by
          have hs' : P.underlying src = some (.slice el) := hd
          simp [convert, run_underlying hs', run_underlying hel, markStringish, shape, freeze, hsh, hmb, Sem.run, Result.andThen]
        have hmod : ∃ fr', (w.freeze ⟨g, cur.size, none⟩ 1).heap[g]? = some (.cells cur o.elem fr') ∧ (cur.size ≤ fr'.1 ∧ o.es = 1) := by
          unfold World.freeze
          rw [if_neg (by decide)]
          simp only [Array.getElem?_modify, h3, if_true, Option.map_some]
          refine ⟨_, rfl, ?_, hes⟩
          rcases h4 with h4 | h4
          · rw [if_pos (by simpa using h4)]; exact Nat.le_refl _
          · split
            · exact Nat.le_refl _
            · show cur.size ≤ min fr.1 cur.size
              omega
        have hoth : ∀ k, k ≠ g → (w.freeze ⟨g, cur.size, none⟩ 1).heap[k]? = w.heap[k]? := by
          intro k hk
          unfold World.freeze
          rw [if_neg (by decide)]
          simp only [Array.getElem?_modify]
          rw [if_neg (Ne.symm hk)]
        have hkeep : Keep F w (w.freeze ⟨g, cur.size, none⟩ 1) := by
          refine ⟨?_, ?_, ?_, ?_, fun k hk => hoth k (fun e => h2 (e ▸ hk))⟩ <;> (unfold World.freeze; rw [if_neg (by decide)]) <;> simp
        obtain ⟨fr', q1, q2⟩ := hmod
        have R2 : Rel F w0 m (h.set a.block (some { o with cells := o.cells })) (w.freeze ⟨g, cur.size, none⟩ 1) :=
          R.put ho hown o.cells cur fr' hkeep (by rw [h1]; exact q1) (.inr q2) h5 h6.1 h6.2 hei (fun k hk => hoth k (by rw [h1] at hk; exact hk)) h7
        have heq : (h.set a.block (some { o with cells := o.cells })).get = h.get := by
          funext i
          rw [Tr.get_set]
          split
          · rename_i hi; rw [hi, ho]
          · rfl
        refine ⟨m, .slice (some (mv m a)) n c', _, hrun, Ext.refl m, dom_same _ _, ?_, ?_⟩
        · exact hx
        · show RelF F w0 m h.get _
          have : RelF F w0 m (h.set a.block (some { o with cells := o.cells })).get _ := R2
          rw [heq] at this
          exact this
      · cases e
    · cases e
  · cases e
theorem bnd_run2 {w : World} {x x' : Option Value} {d l y : Nat} {code : BoundsCode} (hx : ∀ v, x = some v → ∃ v', x' = some v' ∧ VR m v v') (hn : x = none → x' = none) (e : bnd x d = some l) (hl : l ≤ y) : (x' = none ∧ l = d) ∨ ∃ v', x' = some v' ∧ (Instr.sliceBound v' y code).run P w = .ok l w := by
  unfold bnd at e
  split at e
  · injection e with e
    exact .inl ⟨hn rfl, e.symm⟩
  · rename_i k i
    split at e
    · rename_i hi
      injection e with e
      obtain ⟨v', h1, h2⟩ := hx _ rfl
      rw [h2.inv_int] at h1
      refine .inr ⟨_, h1, ?_⟩
      unfold Instr.sliceBound
      have : 0 ≤ i ∧ i ≤ (y : Int) := by omega
      simp only [asIntOf, Sem.run_bind, Sem.run_pure, Result.andThen_ok]
      rw [if_pos this, Sem.run_pure, e]
    · cases e
  · cases e
theorem acutA_sound (R : Rel F w0 m h w) {t : Nat} {a : Addr} {lo hi lo' hi' : Option Value} {x' v : Value} (hx : VR m (.pointer (some a)) x') (hl : ∀ v, lo = some v → ∃ v', lo' = some v' ∧ VR m v v') (hl0 : lo = none → lo' = none) (hh : ∀ v, hi = some v → ∃ v', hi' = some v' ∧ VR m v v') (hh0 : hi = none → hi' = none)
    (e : acutA P h t a lo hi = some v) : Ok P F w0 m w (Instr.sliceAt t x' lo' hi' none) v nx nx h := by
  unfold acutA at e
  split at e
  · rename_i n el hu
    obtain ⟨l, e1, e⟩ := Option.bind_eq_some_iff.1 e
    obtain ⟨u, e2, e⟩ := Option.bind_eq_some_iff.1 e
    obtain ⟨s, e3, e⟩ := Option.bind_eq_some_iff.1 e
    obtain ⟨o, e4, e⟩ := Option.bind_eq_some_iff.1 e
    split at e
    · rename_i hc
      obtain ⟨c1, c2, c3, c4, c5, c6⟩ := hc
      injection e with e
      subst e
      obtain ⟨hd, rfl⟩ := hx.inv_ptr
      obtain ⟨g, cur, fr, h1, h2, h3, h4, h5, h6, h7⟩ := R.own _ o e4 c4
      have hbL := bnd_run2 (P := P) (w := w) (code := .sliceB) hl hl0 e1 (show l ≤ u by omega)
      have hbH := bnd_run2 (P := P) (w := w) (code := .sliceAlen) hh hh0 e2 c2
      have hbounds : (Instr.sliceBounds false n n lo' hi' none).run P w = .ok (l, u, n) w := by
        unfold Instr.sliceBounds
        rcases hbH with ⟨rfl, rfl⟩ | ⟨vh, rfl, r1⟩
        · rcases hbL with ⟨rfl, rfl⟩ | ⟨vl, rfl, r2⟩
          · simp only [Sem.run_bind, Sem.run_pure, Result.andThen_ok]
          · simp only [Sem.run_bind, Sem.run_pure, Result.andThen_ok, Option.isSome_none, Bool.false_eq_true, if_false, r2]
        · rcases hbL with ⟨rfl, rfl⟩ | ⟨vl, rfl, r2⟩
          · simp only [Sem.run_bind, Sem.run_pure, Result.andThen_ok, Bool.false_eq_true, if_false, r1]
          · simp only [Sem.run_bind, Sem.run_pure, Result.andThen_ok, Option.isSome_none, Bool.false_eq_true, if_false, r1, r2]
      have hne : ¬ n = l := by omega
      have hmv : (mv m a).add (l * s) = mv m ⟨a.block, a.off + l * s, none⟩ := by rw [mv_add']; unfold mv; rfl
      refine ⟨m, .slice (some (mv m ⟨a.block, a.off + l * s, none⟩)) (u - l) (n - l), w, ?_, Ext.refl m, dom_same _ _, ?_, R⟩
      · unfold Instr.sliceAt
        simp only [Sem.run_bind, run_underlying hu, Result.andThen_ok, Instr.sureAddr, Sem.run_pure, hbounds, run_sizeOf' e3, if_neg hne, hmv]
      · refine .cell (.slc ⟨a.block, a.off + l * s, none⟩ (u - l) (n - l) hd (by omega) ?_ (by omega))
        rw [R.es _ _ e4, c5, Nat.mul_zero, Nat.add_zero, ← h5]
        have : l * s ≤ n * s := Nat.mul_le_mul_right _ (by omega)
        have := h6.1
        show a.off + l * s ≤ cur.size
        omega
    · cases e
  · cases e
theorem aopE_sound (R : Rel F w0 m h w) {ρ : Operand → Option Value} {ρ' : Operand → Value} (hρ : ∀ x v, ρ x = some v → VR m v (ρ' x)) {o : Oper} {v : Value} {n' : Nat} {h' : Tr AObj} (hf : ∀ i, nx ≤ i → i < n' → ¬ m.dom i) (e : aopE P ρ nx h o = some (v, n', h')) : NOk P F w0 m w (execOp ρ' o) v nx n' h' := by
  unfold aopE at e
  split at e
  · rename_i s d x ho
    split at e
    · rename_i a n c hx
      split at e
      · rename_i v1 hv
        simp only [Option.some.injEq, Prod.mk.injEq] at e
        obtain ⟨rfl, rfl, rfl⟩ := e
        unfold execOp; rw [ho]
        exact ok_next (asame_sound R (hρ x _ hx) hv)
      · split at e
        · rename_i hc
          subst hc
          replace e := keepR_inv e
          obtain ⟨e, rfl, rfl⟩ := e
          unfold execOp; rw [ho]
          exact ok_next (arunes_sound R (hρ x _ hx) e)
        · cases e
    · cases e
  · rename_i t x lo hi ho
    split at e
    · rename_i a hx
      split at e
      · rename_i hc
        simp only [Bool.and_eq_true] at hc
        replace e := keepR_inv e
        obtain ⟨e, rfl, rfl⟩ := e
        unfold execOp; rw [ho]
        have q : ∀ (z : Option Operand), z.all (fun x => (ρ x).isSome) = true → (∀ v, z.bind ρ = some v → ∃ v', z.map ρ' = some v' ∧ VR m v v') ∧ (z.bind ρ = none → z.map ρ' = none) := by
          intro z hz
          cases z with
          | none => exact ⟨fun v hv => by simp at hv, fun _ => rfl⟩
          | some z =>
            refine ⟨fun v hv => ⟨ρ' z, rfl, hρ z v hv⟩, fun hn => ?_⟩
            simp only [Option.all_some] at hz
            rw [Option.bind_some] at hn
            rw [hn] at hz; cases hz
        exact ok_next (acutA_sound R (hρ x _ hx) (q lo hc.1).1 (q lo hc.1).2 (q hi hc.2).1 (q hi hc.2).2 e)
      · cases e
    · cases e
  · rename_i c ho
    split at e
    · replace e := keepR_inv e
      obtain ⟨e, rfl, rfl⟩ := e
      exact apure_sound R hρ e
    · cases e
  · rename_i t x ho
    obtain ⟨x0, hx, e⟩ := Option.bind_eq_some_iff.1 e
    unfold execOp; rw [ho]
    exact ok_next (arange_sound R (hρ x _ hx) hf e)
  · rename_i x b ho
    split at e
    · rename_i a hx
      split at e
      · rename_i hb
        unfold execOp; rw [ho]
        simp only [hb]
        exact ok_next (anext_sound R (hρ x _ hx) e)
      · cases e
    · cases e
  · cases e
end
end
end Go.Proofs.YtcccapeaeehjiaaGreatDoor.AM
