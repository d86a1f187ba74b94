/- Any bytes are the signs that the document says, or wrong at its place; any text is quoted as it says. -/
import Derived.Test.YtnkcffmklomfhaaIsctR
namespace Go.Proofs.Ytnkcffmklomfhaa.Pure
open Go Go.RowKit Go.Proofs.Ytnkcffmklomfhaa.X Go.Proofs.YtnkcffmklomfhaaW.PrintWords Go.Proofs.YtnkcffmklomfhaaW.PrintLast Go.Proofs.Ytnkcffmklomfhaa.PL Go.Proofs.Ytnkcffmklomfhaa.IsctS
set_option linter.unusedSimpArgs false
set_option linter.unusedVariables false
theorem awT : Ev (fun k => glebelaw8_awake.f k) true := Ev.of (fun k => glebelaw8_awake.mono k) (k := 100) (by kernel_rfl)
theorem IsctTells : glebelaw8_IsctTells.Pure := by
  intro l0 l1 h1 h2 h3 h4 h5 h6
  apply Ev.rounds
  have hB := u8_of_wf h3
  have hfin : Ev (fun k => (glebelaw8_awake.f k).bind fun t => some t) true := Ev.bind (g := fun k => glebelaw8_awake.f k) awT (Ev.now _)
  by_cases hlen : (l0.length : Int) > 600
  · refine Ev.congr (fun k => ?_) hfin
    unfold glebelaw8_IsctTells.f
    rw [if_pos hlen]
  · obtain ⟨t, ht, htl, htB⟩ := Text_run l1
    have hb2 : (t ++ l0).length ≤ 1000000 := by simp; omega
    have hB2 : ∀ x ∈ t ++ l0, 0 ≤ x ∧ x < 256 := by
      intro x hx
      rcases List.mem_append.mp hx with hx | hx
      · exact htB x hx
      · exact hB x hx
    have hq : Ev (fun k => (isct_Quote.f k (strOfNums l0)).bind fun t366 => ((gleberef7_Quote.f k (strOfNums l0)).bind fun t367 => (if t366.toList = t367.toList then ((glebelaw8_awake.f k).bind fun t368 => (some t368)) else (none)))) true := by
      have hs : (strOfNums l0).size ≤ 1000 := by rw [size_strOf]; omega
      refine Ev.bind (g := fun k => isct_Quote.f k (strOfNums l0)) (Quote_run _ hs) (Ev.bind (g := fun k => gleberef7_Quote.f k (strOfNums l0)) (rQuote_run _ hs) (Ev.congr (fun k => ?_) hfin))
      rw [if_pos rfl]
    have hloop : ∀ (d i : Nat), i + d = 3 → Ev (fun k => glebelaw8_IsctTells.l0 k l0 [l0, t, t ++ l0] ((3 : Nat) : Int) (i : Int)) true := by
      intro d
      induction d with
      | zero =>
        intro i hi
        obtain rfl : i = 3 := by omega
        refine Ev.step (fun k => ?_) hq
        simp only [glebelaw8_IsctTells.l0]
        rw [if_neg (by omega)]
      | succ d ih =>
        intro i hi
        have hx : ∃ x, rd_L5 [l0, t, t ++ l0] (i : Int) = x ∧ x.length ≤ 1000000 ∧ ∀ y ∈ x, 0 ≤ y ∧ y < 256 := by
          have : i = 0 ∨ i = 1 ∨ i = 2 := by omega
          rcases this with rfl | rfl | rfl
          · exact ⟨l0, rfl, by omega, hB⟩
          · exact ⟨t, rfl, by omega, htB⟩
          · exact ⟨t ++ l0, rfl, hb2, hB2⟩
        obtain ⟨x, hx, hxl, hxB⟩ := hx
        refine Ev.step (f := fun k => (isct_Tokens.f k x).bind fun bt370 => ((gleberef7_Tokens.f k x).bind fun bt376 => (if (!(bt370.2.1 == bt376.2.1) || (!(bt370.2.2 == bt376.2.2))) = true then (none) else ((gleberef7_SameToks.f k bt370.1 bt376.1).bind fun t382 => (if t382 = true then (glebelaw8_IsctTells.l0 k l0 [l0, t, t ++ l0] ((3 : Nat) : Int) ((i + 1 : Nat) : Int)) else (none)))))) (fun k => ?_) (Ev.bind (g := fun k => isct_Tokens.f k x) (Tokens_run x hxl hxB) (Ev.bind (g := fun k => gleberef7_Tokens.f k x) (rTokens_run x hxl hxB) (Ev.congr (fun k => ?_) (Ev.bind (g := fun k => gleberef7_SameToks.f k (tokens x).1 (tokens x).1) (f := fun k t382 => (if t382 = true then (glebelaw8_IsctTells.l0 k l0 [l0, t, t ++ l0] ((3 : Nat) : Int) ((i + 1 : Nat) : Int)) else (none))) (Same_run _ (tokens_len x hxl)) (Ev.congr (fun k => ?_) (ih (i + 1) (by omega)))))))
        · simp only [glebelaw8_IsctTells.l0]
          rw [if_pos (by omega), if_pos (by omega), if_pos (by simp; omega), hx, wrap_nat (by omega)]
        · rw [if_neg (by simp)]
        · rw [if_pos rfl]
    refine Ev.congr (f := fun k => (glebelaw8_Text.f k l1).bind fun t354 => ((glebelaw8_Text.f k l1).bind fun t357 => (if t357.length + l0.length < 140737488355328 then ((some (([l0, t354, (t357 ++ l0)] : List (List Int)) : List (List Int))).bind fun y363 => (glebelaw8_IsctTells.l0 k l0 y363 (y363.length : Int) 0)) else (none)))) (fun k => ?_) (Ev.bind (g := fun k => glebelaw8_Text.f k l1) ht (Ev.bind (g := fun k => glebelaw8_Text.f k l1) ht (Ev.congr (fun k => ?_) (hloop 3 0 rfl))))
    · unfold glebelaw8_IsctTells.f
      rw [if_neg hlen]
    · rw [if_pos (by omega), Option.bind_some]
      rfl
end Go.Proofs.Ytnkcffmklomfhaa.Pure
