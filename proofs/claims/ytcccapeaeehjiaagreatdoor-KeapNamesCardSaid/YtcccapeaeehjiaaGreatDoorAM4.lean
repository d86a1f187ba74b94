/- A call without arguments that hands back a new row. -/
import Derived.Test.YtcccapeaeehjiaaGreatDoorAM3
namespace Go.Proofs.YtcccapeaeehjiaaGreatDoor.AM
noncomputable section
open Go Go.RowKit
set_option linter.unusedVariables false
set_option linter.unusedSimpArgs false
/-- f hands back a new row of n elements, of es cells each. -/
def RowC (P : Program) (f elem es n : Nat) (cells : List LV) : Prop := ∀ w : World, Calls P f #[] w fun e w' => ∃ (g c : Nat) (cur : Array Value) (fr : Nat × Nat), e = .returned (.slice (some ⟨g, 0, none⟩) n c) ∧ (n ≤ c ∧ c * es ≤ cur.size ∧ c ≤ 9223372036854775807 ∧ cells.length ≤ cur.size ∧ fr.1 = fr.2) ∧
  Below w.heap.size w w' ∧ w.heap.size ≤ g ∧ w'.heap[g]? = some (.cells cur elem fr) ∧ ∀ (j : Nat) (v : LV), cells[j]? = some v → cur[j]? = some v.val
def LV.flat : LV → Bool
  | .i _ _ => true
  | .b _ => true
  | .s _ => true
  | .pn => true
  | .sn => true
  | _ => false
theorem LV.flat_ok {x : LV} (h : x.flat = true) : flatC x.val = true := by
  cases x <;> first | rfl | cases h
noncomputable def goesRow (b elem es n : Nat) (cells : List LV) (r : Option (Value × Nat × Tr AObj)) : Bool := Option.rec (motive := fun _ => Bool) false (fun r => sel ((LV.sl b 0 n 1).is r.1) (LRow.at ⟨b, elem, true, es, .vs cells⟩ r.2.2) false) r
theorem rowC_by {P : Program} {call : CallF} (hc : CallOK P g0 call) {f elem es n : Nat} {cells : List LV} (b : Nat) (he : (!(Nat.beq es 1) && !(Nat.beq es ITER) && cells.all LV.flat) = true) (e : goesRow b elem es n cells (call f [] 0 .leaf) = true) : RowC P f elem es n cells := by
  intro w
  have R : Rel (fun g => g < w.heap.size) w m00 .leaf w := ⟨Keep.refl _ _, fun g hg => hg, fun i o h => (by cases h), fun i o h => (by cases h), fun i o h => (by cases h), fun i o h => (by cases h), fun i k oi ok h => (by cases h)⟩
  cases hr : call f [] 0 .leaf with
  | none => rw [hr] at e; cases e
  | some r =>
    obtain ⟨v, n', h'⟩ := r
    rw [hr] at e
    obtain ⟨q1, q2⟩ := sel_and e
    have hv := LV.is_ok q1
    simp only at hv
    subst hv
    have ho := LRow.at_ok q2
    simp only [Bool.and_eq_true, Bool.not_eq_true', List.all_eq_true] at he
    obtain ⟨⟨e1, e2⟩, e3⟩ := he
    have e1' : es ≠ 1 := fun h => by rw [h] at e1; cases e1
    have e2' : es ≠ ITER := fun h => by rw [h, Nat.beq_refl] at e2; cases e2
    refine Calls.mono (hc.ok hr R ⟨fun g hg => (by cases hg), rfl⟩ .nil (fun i _ _ h => h)) ?_
    rintro x w' ⟨m', v', rfl, x1, d1, r1, R1⟩
    obtain ⟨g, cur, fr, k1, k2, k3, k4, k5, k6, k7⟩ := R1.own b _ ho rfl
    have k3' := k3.row e2'
    have hes : m'.es b = es := R1.es b _ ho
    obtain ⟨c', rfl, h1, h2, h3, h4⟩ : ∃ c', v' = .slice (some (mv m' ⟨b, 0, none⟩)) n c' ∧ m'.dom b ∧ n ≤ c' ∧ 0 + c' * m'.es b ≤ m'.sz b ∧ c' ≤ 9223372036854775807 := by
      rcases r1.inv_slc with ⟨_, c', rfl, h1, h2, h3⟩ | ⟨h0, _⟩
      · exact ⟨c', rfl, h1, h2, h3, r1.slc_le rfl⟩
      · cases h0
    have hmv : mv m' ⟨b, 0, none⟩ = ⟨g, 0, none⟩ := by unfold mv; rw [k1]; rfl
    rw [hes, Nat.zero_add, ← k5] at h3
    refine ⟨g, c', cur, fr, by rw [hmv], ⟨h2, h3, h4, ?_, k4.resolve_right fun q => e1' q.2⟩, ⟨R1.below.os, R1.below.tape, R1.below.output, R1.below.size, R1.below.block⟩, Nat.le_of_not_lt k2, k3', ?_⟩
    · have := k6.1
      simpa [LRow.obj, LC.cells] using this
    · intro j v hv
      have hj : (cells.map LV.val)[j]? = some v.val := by rw [List.getElem?_map, hv]; rfl
      obtain ⟨v', q1, q2⟩ := k7 j v.val hj
      have := flatC_eq (LV.flat_ok (e3 v (List.mem_of_getElem? hv))) q2
      rw [q1, this]
def rowT (f elem es n : Nat) (cells : List LV) : SumT := fun g args nx h => if Nat.beq f g then
  match args with
  | [] => some (some (.slice (some ⟨nx, 0, none⟩) n 1, nx + 1, h.set nx (some ⟨cells.map LV.val, elem, true, es⟩)))
  | _ => none
  else none
theorem rowT_ok {P : Program} {gl : Gv} {f elem es n : Nat} {cells : List LV} (he : (!(Nat.beq es 0) && !(Nat.beq es ITER) && cells.all LV.flat) = true) (hC : RowC P f elem es n cells) : TOK P gl (rowT f elem es n cells) := by
  have inv : ∀ {g : FuncId} {args : List Value} {nx : Nat} {h : Tr AObj} {v : Value} {n' : Nat} {h' : Tr AObj}, (rowT f elem es n cells g args nx h).getD none = some (v, n', h') → f = g ∧ args = [] ∧ v = .slice (some ⟨nx, 0, none⟩) n 1 ∧ n' = nx + 1 ∧ h' = h.set nx (some ⟨cells.map LV.val, elem, true, es⟩) := by
    intro g args nx h v n' h' e
    unfold rowT at e
    split at e
    · rename_i hg
      split at e
      · simp only [Option.getD_some, Option.some.injEq, Prod.mk.injEq] at e
        exact ⟨Nat.eq_of_beq_eq_true hg, rfl, e.1.symm, e.2.1.symm, e.2.2.symm⟩
      · cases e
    · cases e
  simp only [Bool.and_eq_true, Bool.not_eq_true', List.all_eq_true] at he
  obtain ⟨⟨e1, e2⟩, e3⟩ := he
  have e1' : es ≠ 0 := fun h => by rw [h] at e1; cases e1
  have e2' : es ≠ ITER := fun h => by rw [h, Nat.beq_refl] at e2; cases e2
  refine ⟨fun {g args nx h v n' h'} e => ?_, fun {g args args' nx h v n' h' F w0 w m} e R G ha hf => ?_⟩
  · obtain ⟨_, _, _, h1, _⟩ := inv e
    omega
  · obtain ⟨rfl, rfl, rfl, rfl, rfl⟩ := inv e
    cases ha
    refine Calls.mono (hC w) ?_
    rintro x w' ⟨g, c, cur, fr, rfl, ⟨h1, h2, h3, h4, h5⟩, hb, hg, hw, hc⟩
    have hn := hf nx (Nat.le_refl _) (Nat.lt_succ_self _)
    refine ⟨_, _, rfl, M.add_ext m nx ⟨g, 0, none⟩ cur.size es hn, dom_add _ _ _ _ _, VR.newSlice m nx g _ es n c h1 h2 h3, ?_⟩
    refine R.addO (h' := h) nx hn ⟨hb.os, hb.tape, hb.output, hb.size, fun k hk => hb.block k (R.base_le k hk)⟩ (fun _ _ k => k) g (fun i o ho hown => ?_) (fun hF => absurd (R.base_le g hF) (by omega)) (cells.map LV.val) cur elem es fr (.inl ⟨e2', hw⟩) (.inl h5) (by rw [List.length_map]; exact h4) (fun j v hv => ?_) (fun h => absurd h e1')
    · have := R.own_lt i o ho hown
      exact ⟨hb.block _ this, by omega⟩
    · rw [List.getElem?_map] at hv
      obtain ⟨u, hu, rfl⟩ := Option.map_eq_some_iff.1 hv
      exact ⟨_, hc j u hu, .flat (LV.flat_ok (e3 u (List.mem_of_getElem? hu)))⟩
end
end Go.Proofs.YtcccapeaeehjiaaGreatDoor.AM
