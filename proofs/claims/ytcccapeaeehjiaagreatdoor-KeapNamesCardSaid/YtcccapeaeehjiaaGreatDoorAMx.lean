/- Calls answered out of contracts: a text builder's own look at itself, its text; texts joined. -/
import Derived.Test.YtcccapeaeehjiaaGreatDoorAMs
import Derived.Shelf.Strings.BuilderK
import Derived.Shelf.Strings.OnBuilder
namespace Go.Proofs.YtcccapeaeehjiaaGreatDoor.AM
noncomputable section
open Go Go.RowKit
set_option linter.unusedVariables false
set_option linter.unusedSimpArgs false
/-! ### what is promised -/
def CopyC (P : Program) (f T : Nat) : Prop :=
  (∀ (b : Nat) (w : World), w.cell? ⟨b, 0, none⟩ = some (.pointer none) → w.shape? b = some (T, 2) → w.frozen? ⟨b, 0, none⟩ = false →
    Calls P f #[.pointer (some ⟨b, 0, none⟩)] w fun e w' => e = .returned (.tuple #[]) ∧ w' = w.setCell ⟨b, 0, none⟩ (.pointer (some ⟨b, 0, none⟩))) ∧
  (∀ (b : Nat) (w : World), w.cell? ⟨b, 0, none⟩ = some (.pointer (some ⟨b, 0, none⟩)) →
    Calls P f #[.pointer (some ⟨b, 0, none⟩)] w fun e w' => e = .returned (.tuple #[]) ∧ w' = w)
def StrC (P : Program) (f e : Nat) : Prop :=
  (∀ (b g cap size : Nat) (l : List UInt8) (w : World), l ≠ [] → w.cell? ⟨b, 1, none⟩ = some (.slice (some ⟨g, 0, none⟩) l.length cap) → w.shape? g = some (e, size) → l.length ≤ cap → cap ≤ 9223372036854775807 → l.length ≤ size →
    (∀ (j : Nat) (x : UInt8), l[j]? = some x → w.cell? ⟨g, j, none⟩ = some (.int .u8 x.toNat)) →
    Calls P f #[.pointer (some ⟨b, 0, none⟩)] w fun x w' => x = .returned (.string ⟨l.toArray⟩) ∧ w' = w.drew.freeze ⟨g, 0, none⟩ l.length) ∧
  (∀ (b : Nat) (w : World), w.cell? ⟨b, 1, none⟩ = some (.slice none 0 0) →
    Calls P f #[.pointer (some ⟨b, 0, none⟩)] w fun x w' => x = .returned (.string ⟨#[]⟩) ∧ w' = w.drew)
def JoinC (P : Program) (f : Nat) : Prop := ∀ (bk o c : Nat) (xs : List ByteArray) (sep : ByteArray) (w : World),
    (∀ (j : Nat) x, xs[j]? = some x → w.cell? ⟨bk, o + j, none⟩ = some (.string x)) → bk < w.heap.size → xs.length ≤ 140737488355328 → xs.length ≤ c →
    (Lib.join (xs.map (·.data.toList)) sep.data.toList).length ≤ 140737488355328 →
    Calls P f #[.slice (some ⟨bk, o, none⟩) xs.length c, .string sep] w fun e w' => e = .returned (.string ⟨(Lib.join (xs.map (·.data.toList)) sep.data.toList).toArray⟩) ∧ Below w.heap.size w w'
section
variable {P : Program} {ρ : Go.Shelf.Ren}
open Go.Shelf in
theorem copyC_of (L : Lays.n240 P ρ) (X : Builder.X72 P ρ) : CopyC P (ρ.f 240) (ρ.t 72) :=
  ⟨fun b w h1 h2 h3 => Any.Builder_copyCheck_fresh L X b w h1 h2 h3, fun b w h => Any.Builder_copyCheck_used L X b w h⟩
open Go.Shelf in
theorem joinC_of (L : Lays.n156 P ρ) (X : Builder.Extra P ρ) : JoinC P (ρ.f 156) :=
  fun bk o c xs sep w h1 h2 h3 h4 h5 => Any.strings_Join L X bk o c xs sep w h1 h2 h3 h4 h5
set_option maxHeartbeats 2000000 in
set_option maxRecDepth 100000 in
open Go.Shelf in
/-- (*strings.Builder).String, with the world behind it. (Turned from the shelf's text.) -/
theorem strC_of (L : Lays.n169 P ρ) (X : Builder.Extra P ρ) : StrC P (ρ.f 169) (ρ.t 5) := by
  refine ⟨?_, ?_⟩
  · intro b g cap size l w h0 hc1 hsh hnc hcm hns hcells
    have hl0 : l.length ≠ 0 := by simpa using h0
    have c1 : w.drew.cell? ⟨b, 1, none⟩ = some (.slice (some ⟨g, 0, none⟩) l.length cap) := hc1
    have hSD : (Builtin.unsafeSliceData_ #[(ρ.t 37)] (ρ.t 127) #[.slice (some ⟨g, 0, none⟩) l.length cap]).run P w.drew = .ok (.pointer (some ⟨g, 0, none⟩)) w.drew :=
      Lib.run_unsafeSliceData_row _ _ _ _ _ _ (by omega)
    have hUS : (Builtin.unsafeString_ #[(ρ.t 127), (ρ.t 3)] (ρ.t 9) #[.pointer (some ⟨g, 0, none⟩), .int .i64 l.length]).run P w.drew = .ok (.string ⟨l.toArray⟩) (w.drew.freeze ⟨g, 0, none⟩ l.length) := by
      refine Lib.run_unsafeString_row w.drew (ρ.t 127) (ρ.t 3) (ρ.t 9) (ρ.t 5) L.t127 X.cellsByte g size hsh l h0 hns (by omega) ?_
      intro j x hx
      have := hcells j x hx
      rw [show (⟨g, 0, none⟩ : Addr).add j = ⟨g, j, none⟩ from by unfold Addr.add; by_cases hj : j = 0 <;> simp [hj]]
      exact this
    have mixed := L.mixed
    have t72 := L.t72; have a72 := L.a72; have z72 := L.z72; have v72 := L.v72; have u72 := run_underlying L.t72
    have t70 := L.t70; have a70 := L.a70; have z70 := L.z70; have v70 := L.v70; have u70 := run_underlying L.t70
    have t37 := L.t37; have a37 := L.a37; have z37 := L.z37; have v37 := L.v37; have u37 := run_underlying L.t37
    have t127 := L.t127; have a127 := L.a127; have z127 := L.z127; have v127 := L.v127; have u127 := run_underlying L.t127
    have t3 := L.t3; have a3 := L.a3; have z3 := L.z3; have v3 := L.v3; have u3 := run_underlying L.t3
    have t9 := L.t9; have a9 := L.a9; have z9 := L.z9; have v9 := L.v9; have u9 := run_underlying L.t9
    have t5 := X.t5; have a5 := X.a5; have z5 := X.z5; have v5 := X.v5; have u5 := run_underlying X.t5
    go_enter L.f169, Body.n169_ntmps ρ
    go_wp2
    go_region_o
    all_goals (go_wp2; go_ret; exact ⟨rfl, rfl⟩)
  · intro b w hc1
    have hUS := Any.unsafeString_none L X
    have c1 : w.drew.cell? ⟨b, 1, none⟩ = some (.slice none 0 0) := hc1
    have hSD : (Builtin.unsafeSliceData_ #[(ρ.t 37)] (ρ.t 127) #[.slice none 0 0]).run P w.drew = .ok (.pointer none) w.drew := rfl
    have mixed := L.mixed
    have t72 := L.t72; have a72 := L.a72; have z72 := L.z72; have v72 := L.v72; have u72 := run_underlying L.t72
    have t70 := L.t70; have a70 := L.a70; have z70 := L.z70; have v70 := L.v70; have u70 := run_underlying L.t70
    have t37 := L.t37; have a37 := L.a37; have z37 := L.z37; have v37 := L.v37; have u37 := run_underlying L.t37
    have t127 := L.t127; have a127 := L.a127; have z127 := L.z127; have v127 := L.v127; have u127 := run_underlying L.t127
    have t3 := L.t3; have a3 := L.a3; have z3 := L.z3; have v3 := L.v3; have u3 := run_underlying L.t3
    have t9 := L.t9; have a9 := L.a9; have z9 := L.z9; have v9 := L.v9; have u9 := run_underlying L.t9
    have t5 := X.t5; have a5 := X.a5; have z5 := X.z5; have v5 := X.v5; have u5 := run_underlying X.t5
    go_enter L.f169, Body.n169_ntmps ρ
    go_wp2
    go_region_o
    all_goals (go_wp2; go_ret; exact ⟨rfl, rfl⟩)
end
/-! ### the answers -/
def selfPtr (a : Addr) : Value → Option Bool
  | .pointer none => some false
  | .pointer (some b) => if b.block = a.block ∧ b.off = 0 then some true else none
  | _ => none
def copyT (f T : Nat) : SumT := fun g args nx h => if g = f then match args with
    | [.pointer (some a)] => (h.get a.block).bind fun o => if a.off = 0 ∧ o.own = true ∧ o.elem = T ∧ o.es = 0 then match o.cells with
        | [p, s] => (selfPtr a p).bind fun b => if b then some (some (.tuple #[], nx, h)) else some (some (.tuple #[], nx, h.set a.block (some { o with cells := [.pointer (some a), s] })))
        | _ => none
      else none
    | _ => none
  else none
def byteR? : Value → Option UInt8
  | .int .u8 (.ofNat n) => if n < 256 then some (UInt8.ofNat n) else none
  | _ => none
def bytesR? : List Value → Option (List UInt8)
  | [] => some []
  | v :: vs => (byteR? v).bind fun b => (bytesR? vs).bind fun bs => some (b :: bs)
def strT (f T e : Nat) : SumT := fun g args nx h => if g = f then match args with
    | [.pointer (some a)] => (h.get a.block).bind fun o => if a.off = 0 ∧ o.own = true then match o.cells with
        | [_, .slice none 0 0] => some (some (.string ⟨#[]⟩, nx, h))
        | [_, .slice (some b) n 1] => (h.get b.block).bind fun ob => if b.off = 0 ∧ ob.own = true ∧ ob.elem = e ∧ ob.es = 1 ∧ 0 < n then
            (agets h b.block 0 n).bind fun vs => (bytesR? vs).bind fun l => some (some (.string ⟨⟨l⟩⟩, nx, h.set b.block none))
          else none
        | _ => none
      else none
    | _ => none
  else none
def strs? : List Value → Option (List ByteArray)
  | [] => some []
  | .string s :: l => (strs? l).bind fun r => some (s :: r)
  | _ => none
def joinT (f : Nat) : SumT := fun g args nx h => if g = f then match args with
    | [.slice (some a) n 1, .string sep] => if 0 < n ∧ n ≤ 140737488355328 then (agets h a.block a.off n).bind fun vs => (strs? vs).bind fun l =>
        if (Lib.join (l.map (·.data.toList)) sep.data.toList).length ≤ 140737488355328 then some (some (.string ⟨(Lib.join (l.map (·.data.toList)) sep.data.toList).toArray⟩, nx, h)) else none
      else none
    | _ => none
  else none
section
variable {P : Program} {gl : Gv} {F : Nat → Prop} {w0 w : World} {m : M} {h : Tr AObj} {nx : Nat}
theorem L2.inv1 {R : Value → Value → Prop} {x : Value} {l : List Value} (h : L2 R [x] l) : ∃ y, l = [y] ∧ R x y := by
  cases h with
  | cons a t => cases t; exact ⟨_, rfl, a⟩
theorem L2.inv2 {R : Value → Value → Prop} {x x2 : Value} {l : List Value} (h : L2 R [x, x2] l) : ∃ y y2, l = [y, y2] ∧ R x y ∧ R x2 y2 := by
  cases h with
  | cons a t => cases t with
    | cons b t => cases t; exact ⟨_, _, rfl, a, b⟩
theorem CR.inv_nilptr {m : M} {v' : Value} (c : CR m (.pointer none) v') : v' = .pointer none := flatC_eq rfl c
theorem mv_spot (m : M) (a : Addr) (b : Addr) (h1 : b.block = a.block) (h2 : b.off = a.off) : mv m b = mv m a := by unfold mv; rw [h1, h2]
theorem own_at (R : Rel F w0 m h w) {a : Addr} {o : AObj} (ho : h.get a.block = some o) (hown : o.own = true) (h0 : a.off = 0) : ∃ g cur fr, mv m a = ⟨g, 0, none⟩ ∧ (m.loc a.block) = ⟨g, 0, none⟩ ∧ ¬ F g ∧ HoldsO w g o cur fr ∧ (fr.1 = fr.2 ∨ (cur.size ≤ fr.1 ∧ o.es = 1)) ∧ cur.size = m.sz a.block ∧ (o.cells.length ≤ cur.size ∧ (o.es = 0 → o.cells.length = cur.size)) ∧ ∀ (j : Nat) (v : Value), o.cells[j]? = some v → ∃ v', cur[j]? = some v' ∧ CR m v v' := by
  obtain ⟨g, cur, fr, h1, h2, h3, h4, h5, h6, h7⟩ := R.own _ o ho hown
  exact ⟨g, cur, fr, by unfold mv; rw [h1, h0], h1, h2, h3, h4, h5, h6, h7⟩
theorem cell_of {w : World} {g j : Nat} {cur : Array Value} {e : TypeId} {fr : Nat × Nat} {v : Value} (h : w.heap[g]? = some (.cells cur e fr)) (hv : cur[j]? = some v) : w.cell? ⟨g, j, none⟩ = some v := by
  simp only [World.cell?, h]
  simpa using hv
theorem copyT_ok {f T : Nat} (hC : CopyC P f T) : TOK P gl (copyT f T) := by
  have inv : ∀ {g : FuncId} {args : List Value} {nx : Nat} {h : Tr AObj} {v : Value} {n' : Nat} {h' : Tr AObj}, (copyT f T g args nx h).getD none = some (v, n', h') →
      ∃ a o p s b, g = f ∧ args = [.pointer (some a)] ∧ h.get a.block = some o ∧ (a.off = 0 ∧ o.own = true ∧ o.elem = T ∧ o.es = 0) ∧ o.cells = [p, s] ∧ selfPtr a p = some b ∧ v = .tuple #[] ∧ n' = nx ∧ h' = if b then h else h.set a.block (some { o with cells := [.pointer (some a), s] }) := by
    intro g args nx h v n' h' e
    unfold copyT at e
    split at e
    · rename_i hg
      split at e
      · rename_i a
        cases ho : h.get a.block with
        | none => rw [ho] at e; cases e
        | some o =>
          rw [ho, Option.bind_some] at e
          split at e
          · rename_i hc
            split at e
            · rename_i p s hcs
              cases hb : selfPtr a p with
              | none => rw [hb] at e; cases e
              | some b =>
                rw [hb, Option.bind_some] at e
                refine ⟨a, o, p, s, b, hg, rfl, ho, hc, hcs, hb, ?_⟩
                cases b with
                | true =>
                  simp only [if_true, Option.getD_some, Option.some.injEq, Prod.mk.injEq] at e
                  obtain ⟨rfl, rfl, rfl⟩ := e
                  exact ⟨rfl, rfl, rfl⟩
                | false =>
                  simp only [Bool.false_eq_true, if_false, Option.getD_some, Option.some.injEq, Prod.mk.injEq] at e
                  obtain ⟨rfl, rfl, rfl⟩ := e
                  exact ⟨rfl, rfl, rfl⟩
            · cases e
          · cases e
      · cases e
    · cases e
  refine ⟨fun e => ?_, fun e R G ha hf => ?_⟩
  · obtain ⟨_, _, _, _, _, _, _, _, _, _, _, _, rfl, _⟩ := inv e
    exact Nat.le_refl _
  · rename_i f' args args' nx h v n' h' F w0 w m
    obtain ⟨a, o, p, s, b, rfl, rfl, ho, ⟨c1, c2, c3, c4⟩, hcs, hb, rfl, rfl, rfl⟩ := inv e
    obtain ⟨y, rfl, hy⟩ := ha.inv1
    obtain ⟨hd, rfl⟩ := hy.inv_ptr
    obtain ⟨g, cur, fr, g0, g1, g2, g3, g4, g5, g6, g7⟩ := own_at R ho c2 c1
    have hei : o.es ≠ ITER := g3.ne (by rw [hcs]; simp)
    replace g3 := g3.row hei
    rw [g0]
    obtain ⟨p', hp1, hp2⟩ := g7 0 p (by rw [hcs]; rfl)
    have hsz : cur.size = 2 := by rw [← g6.2 c4, hcs]; rfl
    have done : ∀ w', w' = w → ∃ m' v', (Ending.returned (.tuple #[]) : Ending) = .returned v' ∧ Ext m m' ∧ Dom m n' n' m' ∧ VR m' (.tuple #[]) v' ∧ Rel F w0 m' h w' := by
      rintro w' rfl
      exact ⟨m, _, rfl, Ext.refl m, Dom.refl m _, VR.undef m, R⟩
    cases b with
    | true =>
      have hpa : ∃ q, p = .pointer (some q) ∧ q.block = a.block ∧ q.off = 0 := by
        unfold selfPtr at hb
        split at hb
        · cases hb
        · split at hb
          · rename_i q hq; exact ⟨q, rfl, hq⟩
          · cases hb
        · cases hb
      obtain ⟨q, rfl, hq1, hq2⟩ := hpa
      have : p' = .pointer (some ⟨g, 0, none⟩) := by
        have := (VR.cell hp2).inv_ptr.2
        rw [this, mv_spot m a q hq1 (by rw [hq2, c1]), g0]
      subst this
      refine Calls.mono (hC.2 g w (cell_of g3 hp1)) ?_
      rintro x w' ⟨rfl, hw⟩
      exact done w' hw
    | false =>
      have hpn : p = .pointer none := by
        unfold selfPtr at hb
        split at hb
        · rfl
        · split at hb <;> cases hb
        · cases hb
      subst hpn
      have := hp2.inv_nilptr
      subst this
      have hfr : fr.1 = fr.2 := g4.resolve_right (fun q => by omega)
      refine Calls.mono (hC.1 g w (cell_of g3 hp1) (by rw [← c3, ← hsz]; unfold World.shape?; rw [g3]) (by simp only [World.frozen?, g3, Bool.and_eq_false_iff, decide_eq_false_iff_not]; omega)) ?_
      rintro x w' ⟨rfl, rfl⟩
      refine ⟨m, _, rfl, Ext.refl m, Dom.refl m _, VR.undef m, ?_⟩
      have hcell : cur.size = 2 := hsz
      refine R.put ho c2 [.pointer (some a), s] (cur.setIfInBounds 0 (.pointer (some ⟨g, 0, none⟩))) fr ((Keep.refl F w).setCell (p := ⟨g, 0, none⟩) g2 _) ?_ (by simpa using g4) (by simpa using g5) (by simp [hsz]) (fun _ => by simp [hsz]) hei ?_ ?_
      · rw [g1]
        show (w.setCell ⟨g, 0, none⟩ _).heap[g]? = _
        simp [World.setCell, Array.getElem?_modify, g3]
      · intro k hk
        rw [g1] at hk
        simp only [World.setCell, Array.getElem?_modify]
        rw [if_neg (Ne.symm hk)]
      · intro j u hu
        match j, hu with
        | 0, hu =>
          simp only [List.getElem?_cons_zero, Option.some.injEq] at hu
          subst hu
          refine ⟨.pointer (some ⟨g, 0, none⟩), by simp [hsz], ?_⟩
          rw [← g0]
          exact .ptr a hd
        | 1, hu =>
          simp only [List.getElem?_cons_succ, List.getElem?_cons_zero, Option.some.injEq] at hu
          subst hu
          obtain ⟨v', k1, k2⟩ := g7 1 s (by rw [hcs]; rfl)
          exact ⟨v', by rw [Array.getElem?_setIfInBounds_ne (by decide)]; exact k1, k2⟩
        | j + 2, hu => simp at hu
theorem bytesR_get : ∀ {vs : List Value} {l : List UInt8}, bytesR? vs = some l → l.length = vs.length ∧ ∀ (j : Nat) (x : UInt8), l[j]? = some x → vs[j]? = some (.int .u8 x.toNat)
  | [], l, e => by unfold bytesR? at e; injection e with e; subst e; exact ⟨rfl, fun j x h => by simp at h⟩
  | v :: vs, l, e => by
    unfold bytesR? at e
    obtain ⟨b, hb, e⟩ := Option.bind_eq_some_iff.1 e
    obtain ⟨bs, h2, he⟩ := Option.bind_eq_some_iff.1 e
    injection he with he
    subst he
    obtain ⟨k1, k2⟩ := bytesR_get h2
    refine ⟨by simp [k1], fun j x hx => ?_⟩
    cases j with
    | zero =>
      simp only [List.getElem?_cons_zero, Option.some.injEq] at hx ⊢
      subst hx
      unfold byteR? at hb
      split at hb
      · rename_i n
        split at hb
        · rename_i hn
          injection hb with hb
          rw [← hb, UInt8.toNat_ofNat_of_lt' hn]
          rfl
        · cases hb
      · cases hb
    | succ j => exact k2 j x (by simpa using hx)
theorem heap_freeze_ne (w : World) (g n k : Nat) (hk : k ≠ g) : (w.freeze ⟨g, 0, none⟩ n).heap[k]? = w.heap[k]? := by
  unfold World.freeze
  split
  · rfl
  · simp only [Array.getElem?_modify]
    rw [if_neg (Ne.symm hk)]
theorem Keep.freeze {F : Nat → Prop} {a w : World} (h : Keep F a w) {g : Nat} (hg : ¬ F g) (n : Nat) : Keep F a (w.freeze ⟨g, 0, none⟩ n) := by
  refine h.trans ⟨?_, ?_, ?_, ?_, fun k hk => heap_freeze_ne w g n k (fun e => hg (e ▸ hk))⟩ <;> (unfold World.freeze; split <;> simp)
theorem strT_ok {f T e : Nat} (hC : StrC P f e) : TOK P gl (strT f T e) := by
  have inv : ∀ {g : FuncId} {args : List Value} {nx : Nat} {h : Tr AObj} {v : Value} {n' : Nat} {h' : Tr AObj}, (strT f T e g args nx h).getD none = some (v, n', h') →
      ∃ a o p s, g = f ∧ args = [.pointer (some a)] ∧ h.get a.block = some o ∧ (a.off = 0 ∧ o.own = true) ∧ o.cells = [p, s] ∧
        ((s = .slice none 0 0 ∧ v = .string ⟨#[]⟩ ∧ n' = nx ∧ h' = h) ∨ (∃ b n ob vs l, s = .slice (some b) n 1 ∧ h.get b.block = some ob ∧ (b.off = 0 ∧ ob.own = true ∧ ob.elem = e ∧ ob.es = 1 ∧ 0 < n) ∧ agets h b.block 0 n = some vs ∧ bytesR? vs = some l ∧ v = .string ⟨⟨l⟩⟩ ∧ n' = nx ∧ h' = h.set b.block none)) := by
    intro g args nx h v n' h' q
    unfold strT at q
    split at q
    · rename_i hg
      split at q
      · rename_i a
        cases ho : h.get a.block with
        | none => rw [ho] at q; cases q
        | some o =>
          rw [ho, Option.bind_some] at q
          split at q
          · rename_i hc
            split at q
            · rename_i p hcs
              simp only [Option.getD_some, Option.some.injEq, Prod.mk.injEq] at q
              obtain ⟨rfl, rfl, rfl⟩ := q
              exact ⟨a, o, p, _, hg, rfl, ho, hc, hcs, .inl ⟨rfl, rfl, rfl, rfl⟩⟩
            · rename_i p b n hcs
              cases hb : h.get b.block with
              | none => rw [hb] at q; cases q
              | some ob =>
                rw [hb, Option.bind_some] at q
                split at q
                · rename_i hd
                  cases hv : agets h b.block 0 n with
                  | none => rw [hv] at q; cases q
                  | some vs =>
                    rw [hv, Option.bind_some] at q
                    cases hl : bytesR? vs with
                    | none => rw [hl] at q; cases q
                    | some l =>
                      rw [hl] at q
                      simp only [Option.bind_some, Option.getD_some, Option.some.injEq, Prod.mk.injEq] at q
                      obtain ⟨rfl, rfl, rfl⟩ := q
                      exact ⟨a, o, p, _, hg, rfl, ho, hc, hcs, .inr ⟨b, n, ob, vs, l, rfl, hb, hd, hv, hl, rfl, rfl, rfl⟩⟩
                · cases q
            · cases q
          · cases q
      · cases q
    · cases q
  refine ⟨fun q => ?_, fun q R G ha hf => ?_⟩
  · obtain ⟨_, _, _, _, _, _, _, _, _, h | h⟩ := inv q
    · rw [h.2.2.1]; exact Nat.le_refl _
    · obtain ⟨_, _, _, _, _, _, _, _, _, _, _, h, _⟩ := h
      rw [h]; exact Nat.le_refl _
  · rename_i f' args args' nx h v n' h' F w0 w m
    obtain ⟨a, o, p, s, rfl, rfl, ho, ⟨c1, c2⟩, hcs, hr⟩ := inv q
    obtain ⟨y, rfl, hy⟩ := ha.inv1
    obtain ⟨hd, rfl⟩ := hy.inv_ptr
    obtain ⟨g, cur, fr, g0, g1, g2, g3, g4, g5, g6, g7⟩ := own_at R ho c2 c1
    have hei : o.es ≠ ITER := g3.ne (by rw [hcs]; simp)
    replace g3 := g3.row hei
    rw [g0]
    obtain ⟨s', hs1, hs2⟩ := g7 1 s (by rw [hcs]; rfl)
    rcases hr with ⟨rfl, rfl, rfl, rfl⟩ | ⟨b, n, ob, vs, l, rfl, hb, ⟨d1, d2, d3, d4, d5⟩, hv, hl, rfl, rfl, rfl⟩
    · have : s' = .slice none 0 0 := flatC_eq rfl hs2
      subst this
      refine Calls.mono (hC.2 g w (cell_of g3 hs1)) ?_
      rintro x w' ⟨rfl, rfl⟩
      exact ⟨m, _, rfl, Ext.refl m, Dom.refl m _, VR.flat rfl, R.drew⟩
    · obtain ⟨c', rfl, k1, k2, k3, k4⟩ := (VR.cell hs2).inv_slc1
      obtain ⟨gb, curb, frb, b0, b1, b2, b3, b4, b5, b6, b7⟩ := own_at R hb d2 d1
      replace b3 := b3.row (by rw [d4]; decide)
      have hlen := agets_len hv
      obtain ⟨l1, l2⟩ := bytesR_get hl
      have hln : l.length = n := l1.trans hlen
      have hcells : ∀ (j : Nat) (x : UInt8), l[j]? = some x → w.cell? ⟨gb, j, none⟩ = some (.int .u8 x.toNat) := by
        intro j x hx
        have h1 := l2 j x hx
        have h2 := agets_get hv j _ h1
        rw [Nat.zero_add] at h2
        unfold aget at h2
        rw [hb, Option.bind_some] at h2
        obtain ⟨v', q1, q2⟩ := b7 j _ h2
        have : v' = .int .u8 x.toNat := flatC_eq rfl q2
        subst this
        exact cell_of b3 q1
      have hes : m.es b.block = 1 := by rw [R.es _ _ hb]; exact d4
      rw [d1, hes] at k3
      refine Calls.mono (hC.1 g gb c' curb.size l w (by intro e; rw [e] at hln; simp at hln; omega) ?_ ?_ (by omega) k4 (by omega) hcells) ?_
      · rw [hln]; rw [← b0]; exact cell_of g3 hs1
      · unfold World.shape?; rw [b3, ← d3]
      · rintro x w' ⟨rfl, rfl⟩
        refine ⟨m, _, rfl, Ext.refl m, Dom.refl m _, VR.flat rfl, ?_⟩
        have hsub : ∀ i q, (h.set b.block none).get i = some q → h.get i = some q ∧ i ≠ b.block := by
          intro i q hq
          rw [Tr.get_set] at hq
          split at hq
          · cases hq
          · rename_i hi; exact ⟨hq, hi⟩
        refine (R.sub (h' := h.set b.block none) fun i q hq => (hsub i q hq).1).same ((Keep.refl F w).drew.freeze b2 _) ?_
        intro i q hq hown
        obtain ⟨hq1, hq2⟩ := hsub i q hq
        have hap := R.apart i b.block q ob hq1 hb hown d2 hq2
        rw [b1] at hap
        exact heap_freeze_ne _ _ _ _ hap
theorem strs_get : ∀ {vs : List Value} {l : List ByteArray}, strs? vs = some l → l.length = vs.length ∧ ∀ (j : Nat) (x : ByteArray), l[j]? = some x → vs[j]? = some (.string x)
  | [], l, e => by unfold strs? at e; injection e with e; subst e; exact ⟨rfl, fun j x h => by simp at h⟩
  | v :: vs, l, e => by
    cases v with
    | string s =>
      unfold strs? at e
      obtain ⟨bs, h2, he⟩ := Option.bind_eq_some_iff.1 e
      injection he with he
      subst he
      obtain ⟨k1, k2⟩ := strs_get h2
      refine ⟨by simp [k1], fun j x hx => ?_⟩
      cases j with
      | zero => simp only [List.getElem?_cons_zero, Option.some.injEq] at hx ⊢; rw [hx]
      | succ j => exact k2 j x (by simpa using hx)
    | _ => cases e
theorem joinT_ok {f : Nat} (hC : JoinC P f) : TOK P gl (joinT f) := by
  have inv : ∀ {g : FuncId} {args : List Value} {nx : Nat} {h : Tr AObj} {v : Value} {n' : Nat} {h' : Tr AObj}, (joinT f g args nx h).getD none = some (v, n', h') →
      ∃ a n sep vs l, g = f ∧ args = [.slice (some a) n 1, .string sep] ∧ (0 < n ∧ n ≤ 140737488355328) ∧ agets h a.block a.off n = some vs ∧ strs? vs = some l ∧ (Lib.join (l.map (·.data.toList)) sep.data.toList).length ≤ 140737488355328 ∧ v = .string ⟨(Lib.join (l.map (·.data.toList)) sep.data.toList).toArray⟩ ∧ n' = nx ∧ h' = h := by
    intro g args nx h v n' h' q
    unfold joinT at q
    split at q
    · rename_i hg
      split at q
      · rename_i a n sep
        split at q
        · rename_i hc
          cases hv : agets h a.block a.off n with
          | none => rw [hv] at q; cases q
          | some vs =>
            rw [hv, Option.bind_some] at q
            cases hl : strs? vs with
            | none => rw [hl] at q; cases q
            | some l =>
              rw [hl, Option.bind_some] at q
              split at q
              · rename_i hj
                simp only [Option.getD_some, Option.some.injEq, Prod.mk.injEq] at q
                obtain ⟨rfl, rfl, rfl⟩ := q
                exact ⟨a, n, sep, vs, l, hg, rfl, hc, hv, hl, hj, rfl, rfl, rfl⟩
              · cases q
        · cases q
      · cases q
    · cases q
  refine ⟨fun q => ?_, fun q R G ha hf => ?_⟩
  · obtain ⟨_, _, _, _, _, _, _, _, _, _, _, _, h, _⟩ := inv q
    rw [h]; exact Nat.le_refl _
  · rename_i f' args args' nx h v n' h' F w0 w m
    obtain ⟨a, n, sep, vs, l, rfl, rfl, ⟨c1, c2⟩, hv, hl, hj, rfl, rfl, rfl⟩ := inv q
    obtain ⟨y, y2, rfl, hy, hy2⟩ := ha.inv2
    have hsep := hy2.inv_str
    subst hsep
    obtain ⟨c', rfl, k1, k2, k3, k4⟩ := hy.inv_slc1
    have hlen := agets_len hv
    obtain ⟨l1, l2⟩ := strs_get hl
    have hln : l.length = n := l1.trans hlen
    obtain ⟨vs', v1, v2, v3⟩ := agets_sound R hv
    have hcell : ∀ (j : Nat) x, l[j]? = some x → w.cell? ⟨(m.loc a.block).block, (mv m a).off + j, none⟩ = some (.string x) := by
      intro j x hx
      obtain ⟨v', q1, q2⟩ := v3 j _ (l2 j x hx)
      have : v' = .string x := flatC_eq rfl q2
      subst this
      have := v2 j _ q1
      rw [mv_add'] at this
      rw [← this]
      unfold mv
      rw [Nat.add_assoc]
    have hmv : mv m a = ⟨(m.loc a.block).block, (mv m a).off, none⟩ := rfl
    have hlt : (m.loc a.block).block < w.heap.size := by
      obtain ⟨x, hx⟩ : ∃ x, l[0]? = some x := ⟨l[0], List.getElem?_eq_getElem (by omega)⟩
      exact World.block_lt_of_cell? w ⟨(m.loc a.block).block, (mv m a).off + 0, none⟩ (hcell 0 x hx)
    rw [hmv, ← hln]
    refine Calls.mono (hC _ _ c' l sep w hcell hlt (by omega) (by omega) hj) ?_
    rintro x w' ⟨rfl, hb⟩
    exact ⟨m, _, rfl, Ext.refl m, Dom.refl m _, VR.flat rfl, R.same ⟨hb.os, hb.tape, hb.output, hb.size, fun k hk => hb.block k (R.base_le k hk)⟩ (fun i o ho hown => hb.block _ (R.own_lt i o ho hown))⟩
end
end
end Go.Proofs.YtcccapeaeehjiaaGreatDoor.AM
