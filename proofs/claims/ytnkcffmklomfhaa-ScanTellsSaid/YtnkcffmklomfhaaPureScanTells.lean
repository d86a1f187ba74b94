/- Any bytes have the lines, and any place in them the line and column, that the document says. -/
import Derived.Test.YtnkcffmklomfhaaYx7
import Derived.Test.YtnkcffmklomfhaaScanS
namespace Go.Proofs.Ytnkcffmklomfhaa.Pure
open Go Go.RowKit Go.Proofs.Ytnkcffmklomfhaa.Y Go.Proofs.YtnkcffmklomfhaaW.PrintWords Go.Proofs.YtnkcffmklomfhaaW.PrintLast Go.Proofs.Ytnkcffmklomfhaa.PL Go.Proofs.Ytnkcffmklomfhaa.ScanS
set_option linter.unusedSimpArgs false
set_option linter.unusedVariables false
theorem ScanTells : glebelaw7_ScanTells.Pure := by
  intro b a h1 h2 h3 h4
  apply Ev.rounds
  have hB := u8_of_wf h3
  have hfin : Ev (fun k => (glebelaw7_awake.f k).bind fun t => some t) true := Ev.bind (g := fun k => glebelaw7_awake.f k) awS (Ev.now _)
  by_cases hlen : (b.length : Int) > 500
  · refine Ev.congr (fun k => ?_) hfin
    unfold glebelaw7_ScanTells.f
    rw [if_pos hlen]
  have hb : b.length < 1000000 := by omega
  have hne : ¬ wrap64 ((b.length : Int) + 1) = 0 := by rw [wrap_n1 b.length (by omega)]; omega
  have hlast : ∀ a : Int, Ev (fun k => glebelaw7_ScanTells.l0 k b a 2) true := by
    intro a
    have hll := lines_len b [] 0
    refine Ev.step (f := fun k => (scan_Lines.f k b).bind fun t234 => ((gleberef7_Lines.f k b).bind fun t237 => ((gleberef7_SameToks.f k t234 t237).bind fun t240 => (if t240 = true then ((glebelaw7_awake.f k).bind fun t241 => (some t241)) else (none))))) (fun k => ?_) (Ev.bind (g := fun k => scan_Lines.f k b) (Lines_run b hb hB) (Ev.bind (g := fun k => gleberef7_Lines.f k b) (rLines_run b hb) (Ev.bind (g := fun k => gleberef7_SameToks.f k (linesS 0 [] b) (linesS 0 [] b)) (f := fun k t240 => (if t240 = true then ((glebelaw7_awake.f k).bind fun t241 => (some t241)) else (none))) (Same_run _ (by omega)) (Ev.congr (fun k => ?_) hfin))))
    · simp only [glebelaw7_ScanTells.l0]
      rw [if_neg (by decide)]
    · rw [if_pos rfl]
  have hround : ∀ (a i j : Int), i < 2 → wrap64 (i + 1) = j → (∀ a', Ev (fun k => glebelaw7_ScanTells.l0 k b a' j) true) → Ev (fun k => glebelaw7_ScanTells.l0 k b a i) true := by
    intro a i j hi hj hn
    refine Ev.step (f := fun k => (scan_Where.f k b a).bind fun bt230 => ((gleberef7_Where.f k b a).bind fun bt232 => (if bt230.1 = bt232.1 then (if bt230.2 = bt232.2 then (if (wrap64 ((b.length : Int) + 1)) = 0 then (none) else (glebelaw7_ScanTells.l0 k b (Int.tmod (Go.bits .and .i64 a 65535) (wrap64 ((b.length : Int) + 1))) j)) else (none)) else (none)))) (fun k => ?_) (Ev.bind (g := fun k => scan_Where.f k b a) (Where_run b hb hB a) (Ev.bind (g := fun k => gleberef7_Where.f k b a) (rWhere_run b hb a) (Ev.congr (fun k => ?_) (hn (Int.tmod (Go.bits .and .i64 a 65535) (wrap64 ((b.length : Int) + 1)))))))
    · simp only [glebelaw7_ScanTells.l0]
      rw [if_pos hi, hj]
    · rw [if_pos rfl, if_pos rfl, if_neg hne]
  have h0 := hround a 0 1 (by decide) (by unfold wrap64; omega) (fun a' => hround a' 1 2 (by decide) (by unfold wrap64; omega) hlast)
  refine Ev.congr (fun k => ?_) h0
  unfold glebelaw7_ScanTells.f
  rw [if_neg hlen]
end Go.Proofs.Ytnkcffmklomfhaa.Pure
