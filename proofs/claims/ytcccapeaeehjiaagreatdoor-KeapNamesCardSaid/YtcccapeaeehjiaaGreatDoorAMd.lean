/- Addresses, cuts, rows put together, append: each sound. -/
import Derived.Test.YtcccapeaeehjiaaGreatDoorAMc
import Derived.Deep.AppendSrc
namespace Go.Proofs.YtcccapeaeehjiaaGreatDoor.AM
noncomputable section
open Go Go.RowKit
set_option linter.unusedVariables false
set_option linter.unusedSimpArgs false
section
variable {P : Program} {F : Nat → Prop} {w0 w : World} {m : M} {h : Tr AObj} {nx : Nat}
theorem Ok.pure (R : Rel F w0 m h w) {s : Sem Value} {v v' : Value} (hr : s.run P w = .ok v' w) (r : VR m v v') : Ok P F w0 m w s v nx nx h := ⟨m, v', w, hr, Ext.refl m, dom_same _ _, r, R⟩
def afieldAddr (P : Program) (s f : Nat) : Value → Option Value
  | .pointer (some a) => match P.underlying s with
    | some (.struct fields) => match fields[f]? with
      | some fl => match tsize P fl.type with
        | some (_ + 1) => some (.pointer (some ⟨a.block, a.off + fl.offset, none⟩))
        | _ => none
      | none => none
    | _ => none
  | _ => none
theorem afieldAddr_sound (R : Rel F w0 m h w) {s f : Nat} {a a' v : Value} (ha : VR m a a') (e : afieldAddr P s f a = some v) : Ok P F w0 m w (Instr.fieldAt s a' f) v nx nx h := by
  unfold afieldAddr at e
  split at e
  · rename_i ad
    obtain ⟨hb, rfl⟩ := ha.inv_ptr
    split at e
    · rename_i fields hu
      split at e
      · rename_i fl hf
        split at e
        · rename_i k hk
          injection e with e
          subst e
          have hp : mv m ⟨ad.block, ad.off + fl.offset, none⟩ = (mv m ad).add fl.offset := (mv_add' m ad fl.offset).symm
          refine Ok.pure R (v' := .pointer (some (mv m ⟨ad.block, ad.off + fl.offset, none⟩))) ?_ (.cell (.ptr _ hb))
          rw [hp]
          unfold Instr.fieldAt Instr.sureAddr fieldPlace
          simp only [Sem.run_bind, Sem.run_pure, Result.andThen_ok, run_underlying hu, hf, run_sizeOf' hk]
          rw [if_neg (by omega)]
          rfl
        · cases e
      · cases e
    · cases e
  · cases e
theorem VR.inv_slc {a : Addr} {n c : Nat} {v' : Value} (r : VR m (.slice (some a) n c) v') :
    (c = 1 ∧ ∃ c', v' = .slice (some (mv m a)) n c' ∧ m.dom a.block ∧ n ≤ c' ∧ a.off + c' * m.es a.block ≤ m.sz a.block) ∨ (c = 0 ∧ n = 0 ∧ ∃ b c', v' = .slice (some b) 0 c') := by
  cases r with
  | one r => cases r with
    | c r => cases r with
      | flat h => simp [flatC] at h
      | slc _ _ c' hb hc hs _ => exact .inl ⟨rfl, c', rfl, hb, hc, hs⟩
      | emp _ b c' => exact .inr ⟨rfl, rfl, b, c', rfl⟩
theorem VR.slc_le {a : Addr} {n c n' c' : Nat} {A : Option Addr} (r : VR m (.slice (some a) n c) (.slice A n' c')) (hc : c = 1) : c' ≤ 9223372036854775807 := by
  cases r with
  | one r => cases r with
    | c r => cases r with
      | flat h => simp [flatC] at h
      | slc _ _ _ hb hc hs hm => exact hm
      | emp => cases hc
def aindexAddr (P : Program) (t : Nat) (x i : Value) : Option Value :=
  match P.underlying t, x, i with
  | some (.slice e), .slice (some a) n _, .int _ i => if 0 ≤ i ∧ i < (n : Int) then (tsize P e).map fun s => .pointer (some ⟨a.block, a.off + i.toNat * s, none⟩) else none
  | some (.array n e), .pointer (some a), .int _ i => if 0 ≤ i ∧ i < (n : Int) then (tsize P e).map fun s => .pointer (some ⟨a.block, a.off + i.toNat * s, none⟩) else none
  | _, _, _ => none
theorem aindexAddr_sound (R : Rel F w0 m h w) {t : Nat} {x x' i i' v : Value} (hx : VR m x x') (hi : VR m i i') (e : aindexAddr P t x i = some v) : Ok P F w0 m w (Instr.indexAt t x' i') v nx nx h := by
  unfold aindexAddr at e
  split at e
  · rename_i el a n c k iv hu
    split at e
    · rename_i hr
      obtain ⟨s, hs, rfl⟩ := Option.map_eq_some_iff.1 e
      rw [hi.inv_int]
      rcases hx.inv_slc with ⟨_, c', rfl, hb, _, _⟩ | ⟨_, h0, _⟩
      · have hp : mv m ⟨a.block, a.off + iv.toNat * s, none⟩ = (mv m a).add (iv.toNat * s) := (mv_add' m a _).symm
        refine Ok.pure R (v' := .pointer (some (mv m ⟨a.block, a.off + iv.toNat * s, none⟩))) ?_ (.cell (.ptr _ hb))
        rw [hp]
        unfold Instr.indexAt asIntOf
        simp only [Sem.run_bind, Sem.run_pure, Result.andThen_ok, run_underlying hu]
        rw [if_pos hr]
        simp only [Sem.run_bind, run_sizeOf' hs, Result.andThen_ok, Sem.run_pure]
      · omega
    · cases e
  · rename_i n el a k iv hu
    split at e
    · rename_i hr
      obtain ⟨s, hs, rfl⟩ := Option.map_eq_some_iff.1 e
      rw [hi.inv_int]
      obtain ⟨hb, rfl⟩ := hx.inv_ptr
      have hp : mv m ⟨a.block, a.off + iv.toNat * s, none⟩ = (mv m a).add (iv.toNat * s) := (mv_add' m a _).symm
      refine Ok.pure R (v' := .pointer (some (mv m ⟨a.block, a.off + iv.toNat * s, none⟩))) ?_ (.cell (.ptr _ hb))
      rw [hp]
      unfold Instr.indexAt asIntOf Instr.sureAddr
      simp only [Sem.run_bind, Sem.run_pure, Result.andThen_ok, run_underlying hu]
      rw [if_pos hr]
      simp only [Sem.run_bind, run_sizeOf' hs, Result.andThen_ok, Sem.run_pure]
    · cases e
  · cases e
/-! ### cuts of slices -/
def intOfV : Value → Option Int
  | .int _ i => some i
  | _ => none
/-- a bound that is given, or d -/
def bnd (x : Option Value) (d : Nat) : Option Nat :=
  match x with
  | none => some d
  | some (.int _ i) => if 0 ≤ i then some i.toNat else none
  | _ => none
/-- The cut: from l, to u, of n elements; mx: a capacity is given. -/
def aslice (P : Program) (h : Tr AObj) (t : Nat) (x : Value) (lo hi mx : Option Value) : Option Value :=
  match P.underlying t, x with
  | some (.slice e), .slice (some a) n c =>
    (bnd lo 0).bind fun l => (bnd hi n).bind fun u => (bnd mx n).bind fun q => (tsize P e).bind fun s => (h.get a.block).bind fun o =>
      if l ≤ u ∧ u ≤ q ∧ q ≤ n ∧ o.es = s ∧ (mx.isSome = true → hi.isSome = true) then
        if l = 0 ∧ u = n ∧ mx = none then some x
        else if l = u then some (.slice (some a) 0 0)
        else some (.slice (some ⟨a.block, a.off + l * s, none⟩) (u - l) 1)
      else none
  | _, _ => none
theorem bnd_run {x x' : Option Value} {d l y : Nat} (hx : ∀ v, x = some v → ∃ v', x' = some v' ∧ VR m v v') (hn : x = none → x' = none) (e : bnd x d = some l) (hy : l ≤ y) (code : BoundsCode) :
    (x' = none ∧ x = none ∧ l = d) ∨ ∃ k i, x' = some (.int k i) ∧ (Instr.sliceBound (.int k i) y code).run P w = .ok l w := by
  unfold bnd at e
  cases x with
  | none => injection e with e; exact .inl ⟨hn rfl, rfl, e.symm⟩
  | some v =>
    right
    obtain ⟨v', h1, h2⟩ := hx v rfl
    cases v <;> simp only at e <;> try (cases e)
    rename_i k i
    split at e
    · rename_i h0
      injection e with e
      subst e
      refine ⟨k, i, by rw [h1, h2.inv_int], ?_⟩
      unfold Instr.sliceBound asIntOf
      simp only [Sem.run_bind, Sem.run_pure, Result.andThen_ok]
      rw [if_pos ⟨h0, by omega⟩]
      rfl
    · cases e
theorem aslice_sound (R : Rel F w0 m h w) {t : Nat} {x x' v : Value} {lo hi mx lo' hi' mx' : Option Value} (hx : VR m x x')
    (hlo : ∀ v, lo = some v → ∃ v', lo' = some v' ∧ VR m v v') (hlo0 : lo = none → lo' = none) (hhi : ∀ v, hi = some v → ∃ v', hi' = some v' ∧ VR m v v') (hhi0 : hi = none → hi' = none)
    (hmx : ∀ v, mx = some v → ∃ v', mx' = some v' ∧ VR m v v') (hmx0 : mx = none → mx' = none)
    (e : aslice P h t x lo hi mx = some v) : Ok P F w0 m w (Instr.sliceAt t x' lo' hi' mx') v nx nx h := by
  unfold aslice at e
  split at e
  · rename_i el a n c hu
    obtain ⟨l, hl, e⟩ := Option.bind_eq_some_iff.1 e
    obtain ⟨u, hu2, e⟩ := Option.bind_eq_some_iff.1 e
    obtain ⟨q, hq, e⟩ := Option.bind_eq_some_iff.1 e
    obtain ⟨s, hs, e⟩ := Option.bind_eq_some_iff.1 e
    obtain ⟨o, ho, e⟩ := Option.bind_eq_some_iff.1 e
    split at e
    · rename_i hc
      obtain ⟨c1, c2, c3, c4, c5⟩ := hc
      -- the concrete slice
      have main : ∀ (A : Addr) (c' : Nat), x' = .slice (some A) n c' → n ≤ c' → ∃ mm : Nat, mm ≤ c' ∧ u ≤ mm ∧ (mx = none → mm = c') ∧
          (Instr.sliceAt t x' lo' hi' mx').run P w = .ok (.slice (if mm = l then some A else some (A.add (l * s))) (u - l) (mm - l)) w := by
        intro A c' he hnc
        subst he
        obtain ⟨mm, hm1, hm2, hm3, hm4⟩ : ∃ mm : Nat, mm ≤ c' ∧ u ≤ mm ∧ (mx = none → mm = c') ∧ ((∃ v', mx' = some v' ∧ (Instr.sliceBound v' c' .slice3Acap).run P w = .ok mm w ∧ mx ≠ none) ∨ (mx' = none ∧ mm = c' ∧ mx = none)) := by
          rcases bnd_run (P := P) (w := w) hmx hmx0 hq (y := c') (by omega) .slice3Acap with ⟨k1, k2, k3⟩ | ⟨k, i, k1, k2⟩
          · exact ⟨c', Nat.le_refl _, by omega, fun _ => rfl, .inr ⟨k1, rfl, k2⟩⟩
          · refine ⟨q, by omega, c2, ?_, .inl ⟨_, k1, k2, ?_⟩⟩
            · intro h0; rw [hmx0 h0] at k1; cases k1
            · intro h0; rw [hmx0 h0] at k1; cases k1
        refine ⟨mm, hm1, hm2, hm3, ?_⟩
        have hbs : (Instr.sliceBounds true n c' lo' hi' mx').run P w = .ok (l, u, mm) w := by
          unfold Instr.sliceBounds
          rcases hm4 with ⟨v', e1, e2, e3⟩ | ⟨e1, e2, e3⟩
          · have hhs := c5 (by cases mx with | none => exact absurd rfl e3 | some _ => rfl)
            rcases bnd_run (P := P) (w := w) hhi hhi0 hu2 (y := mm) hm2 .slice3B with ⟨_, k2, _⟩ | ⟨k, i, k1, k2⟩
            · rw [k2] at hhs; cases hhs
            · rcases bnd_run (P := P) (w := w) hlo hlo0 hl (y := u) c1 .slice3C with ⟨j1, _, j3⟩ | ⟨k', i', j1, j2⟩
              · subst e1; subst k1; subst j1; subst j3
                simp only [Sem.run_bind, e2, Result.andThen_ok, if_true, k2, Sem.run_pure]
              · subst e1; subst k1; subst j1
                simp only [Sem.run_bind, e2, Result.andThen_ok, if_true, k2, Sem.run_pure, Option.isSome_some, j2]
          · subst e1; subst e2
            rcases bnd_run (P := P) (w := w) hhi hhi0 hu2 (y := mm) hm2 .sliceAcap with ⟨k1, _, k3⟩ | ⟨k, i, k1, k2⟩
            · rcases bnd_run (P := P) (w := w) hlo hlo0 hl (y := u) c1 .sliceB with ⟨j1, _, j3⟩ | ⟨k', i', j1, j2⟩
              · subst k1; subst j1; subst j3; subst k3
                simp only [Sem.run_bind, Result.andThen_ok, Sem.run_pure]
              · subst k1; subst j1; subst k3
                simp only [Sem.run_bind, Result.andThen_ok, Sem.run_pure, Option.isSome_none, Bool.false_eq_true, if_false, j2]
            · rcases bnd_run (P := P) (w := w) hlo hlo0 hl (y := u) c1 .sliceB with ⟨j1, _, j3⟩ | ⟨k', i', j1, j2⟩
              · subst k1; subst j1; subst j3
                simp only [Sem.run_bind, Result.andThen_ok, Sem.run_pure, if_true, k2]
              · subst k1; subst j1
                simp only [Sem.run_bind, Result.andThen_ok, Sem.run_pure, Option.isSome_none, Bool.false_eq_true, if_false, if_true, j2, k2]
        unfold Instr.sliceAt
        simp only [Sem.run_bind, run_underlying hu, Result.andThen_ok]
        unfold Instr.slice
        simp only [Sem.run_bind, run_underlying hu, Result.andThen_ok, hbs, run_sizeOf' hs, Sem.run_pure]
        by_cases hml : mm = l
        · rw [if_pos hml, if_pos hml]
        · rw [if_neg hml, if_neg hml]; rfl
      split at e
      · rename_i hz
        obtain ⟨z1, z2, z3⟩ := hz
        injection e with e
        subst e
        rcases hx.inv_slc with ⟨hc1, c', rfl, hb, hnc, hsz⟩ | ⟨hc0, hn0, b, c', rfl⟩
        · obtain ⟨mm, m1, m2, m3, m4⟩ := main _ c' rfl hnc
          rw [m3 z3] at m4
          have : (if c' = l then some (mv m a) else some ((mv m a).add (l * s))) = some (mv m a) := by
            split
            · rfl
            · rw [z1, Nat.zero_mul]; rfl
          rw [this, z1, z2, Nat.sub_zero, Nat.sub_zero] at m4
          exact Ok.pure R m4 (by subst hc1; exact .cell (.slc a n c' hb hnc hsz (hx.slc_le rfl)))
        · subst hn0
          obtain ⟨mm, m1, m2, m3, m4⟩ := main b c' rfl (Nat.zero_le _)
          refine Ok.pure R m4 ?_
          subst hc0
          have hu0 : u - l = 0 := by omega
          rw [hu0]
          split <;> exact .cell (.emp _ _ _)
      · split at e
        · rename_i hlu
          injection e with e
          subst e
          have hcon : ∃ A c', x' = .slice (some A) n c' ∧ n ≤ c' := by
            rcases hx.inv_slc with ⟨hc1, c', rfl, hb, hnc, hsz⟩ | ⟨hc0, hn0, b, c', rfl⟩
            · exact ⟨_, c', rfl, hnc⟩
            · exact ⟨b, c', by rw [hn0], by omega⟩
          obtain ⟨A, c', e1, e2⟩ := hcon
          obtain ⟨mm, m1, m2, m3, m4⟩ := main A c' e1 e2
          refine Ok.pure R m4 ?_
          have hu0 : u - l = 0 := by omega
          rw [hu0]
          split <;> exact .cell (.emp _ _ _)
        · rename_i hlu
          injection e with e
          subst e
          rcases hx.inv_slc with ⟨hc1, c', rfl, hb, hnc, hsz⟩ | ⟨hc0, hn0, b, c', rfl⟩
          · obtain ⟨mm, m1, m2, m3, m4⟩ := main _ c' rfl hnc
            rw [if_neg (by omega)] at m4
            have hp : (mv m a).add (l * s) = mv m ⟨a.block, a.off + l * s, none⟩ := mv_add' m a _
            rw [hp] at m4
            refine Ok.pure R m4 (.cell (.slc _ _ _ hb (by omega) ?_ (by have := hx.slc_le hc1; omega)))
            have hes := R.es _ o ho
            show a.off + l * s + (mm - l) * m.es a.block ≤ m.sz a.block
            rw [hes, c4]
            rw [hes, c4] at hsz
            have h1 : (mm - l) * s + l * s = mm * s := by rw [← Nat.add_mul]; congr 1; omega
            have h2 : mm * s ≤ c' * s := Nat.mul_le_mul_right _ m1
            omega
          · omega
    · cases e
  · cases e
end
end
end Go.Proofs.YtcccapeaeehjiaaGreatDoor.AM
