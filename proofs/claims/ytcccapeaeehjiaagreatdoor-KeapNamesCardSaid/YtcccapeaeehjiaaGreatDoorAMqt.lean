/- The tables that the runs read are laid in every world of the row. -/
import Derived.Test.YtcccapeaeehjiaaGreatDoorAMq0
import Derived.Lib.LaidTab
namespace Go.Proofs.YtcccapeaeehjiaaGreatDoor.AM
open Go Go.Proofs Go.RowKit Go.Lib
set_option linter.unusedVariables false
set_option linter.unusedSimpArgs false
def Reads (P : Program) (w : World) (n : String) (d : DataW Unit) : Prop :=
  ∃ g t cs fuel p, P.globalNamed n = some g ∧ (P.globals[g]?).map (·.type) = some t ∧ w.var? P n = some cs ∧ DataW.trod (fun _ => ()) P w 0 (fun _ => true) false fuel t cs.toList = some (d, p)
theorem reads {P : Program} {w : World} : ∀ {l : List (String × DataW Unit)} {ps : List MemPlace}, DataW.LaidVars P w l ps → ∀ n d, (n, d) ∈ l → Reads P w n d
  | [], _, _, _, _, hm => by cases hm
  | (n', d') :: r, ps, h, n, d, hm => by
    obtain ⟨g, t, cs, fuel, p, q, h1, h2, h3, h4, h5, _⟩ := h
    rcases List.mem_cons.1 hm with e | e
    · cases e
      exact ⟨g, t, cs, fuel, p, h1, h2, h3, h4⟩
    · exact reads h5 n d e
theorem tab0_of {w : World} {l : List (String × DataW Unit)} {zs : List Int} (h : laidMet Tryz.prog l w) (hm : ("internal/strconv.uint64pow10", Lib.tabData .u64 zs) ∈ l) : ∀ (j : Nat) (n : Int), zs[j]? = some n → w.cell? ⟨1, j, none⟩ = some (.int .u64 n) := by
  obtain ⟨ps, hv, _⟩ := h
  obtain ⟨g, t, cs, fuel, p, h1, h2, h3, h4⟩ := reads hv _ _ hm
  have e1 : Tryz.prog.globalNamed "internal/strconv.uint64pow10" = some 1 := by kernel_rfl
  obtain rfl := Option.some.inj (e1.symm.trans h1)
  have e2 : (Tryz.prog.globals[1]?).map (·.type) = some 304 := by kernel_rfl
  obtain rfl := Option.some.inj (e2.symm.trans h2)
  have hT : Lib.TabIs Tryz.prog w "internal/strconv.uint64pow10" .u64 zs := by
    unfold Lib.TabIs
    rw [h3, ← Lib.cells_of_tab Tryz.underlying304 Tryz.underlying22 (by kernel_rfl) (by kernel_rfl) h4]
  intro j n hj
  have hlt := (List.getElem?_eq_some_iff.1 hj).1
  have := Lib.TabIs.cell hT e1 j hlt
  rw [this, List.getD, hj]; rfl
theorem tab1_of {w : World} {l : List (String × DataW Unit)} {zs : List Int} (h : laidMet Tryz.prog l w) (hm : ("math/bits.deBruijn64tab", Lib.tabData .u8 zs) ∈ l) : ∀ (j : Nat) (n : Int), zs[j]? = some n → w.cell? ⟨7, j, none⟩ = some (.int .u8 n) := by
  obtain ⟨ps, hv, _⟩ := h
  obtain ⟨g, t, cs, fuel, p, h1, h2, h3, h4⟩ := reads hv _ _ hm
  have e1 : Tryz.prog.globalNamed "math/bits.deBruijn64tab" = some 7 := by kernel_rfl
  obtain rfl := Option.some.inj (e1.symm.trans h1)
  have e2 : (Tryz.prog.globals[7]?).map (·.type) = some 358 := by kernel_rfl
  obtain rfl := Option.some.inj (e2.symm.trans h2)
  have hT : Lib.TabIs Tryz.prog w "math/bits.deBruijn64tab" .u8 zs := by
    unfold Lib.TabIs
    rw [h3, ← Lib.cells_of_tab Tryz.underlying358 Tryz.underlying5 (by kernel_rfl) (by kernel_rfl) h4]
  intro j n hj
  have hlt := (List.getElem?_eq_some_iff.1 hj).1
  have := Lib.TabIs.cell hT e1 j hlt
  rw [this, List.getD, hj]; rfl
theorem tabs_of {w : World} {l : List (String × DataW Unit)} (h : laidMet Tryz.prog l w) (hm : ∀ t ∈ [("internal/strconv.uint64pow10", Lib.tabData .u64 tabs[0].ns), ("math/bits.deBruijn64tab", Lib.tabData .u8 tabs[1].ns)], t ∈ l) : TabC tabs w := by
  refine ⟨0, fun t ht => ?_⟩
  simp only [tabs, List.mem_cons, List.not_mem_nil, or_false] at ht
  rcases ht with rfl | rfl
  · exact ⟨by simp, fun _ => tab0_of h (hm _ List.mem_cons_self), fun e => by cases e⟩
  · exact ⟨by simp, fun _ => tab1_of h (hm _ (List.mem_cons_of_mem _ List.mem_cons_self)), fun e => by cases e⟩
end Go.Proofs.YtcccapeaeehjiaaGreatDoor.AM
