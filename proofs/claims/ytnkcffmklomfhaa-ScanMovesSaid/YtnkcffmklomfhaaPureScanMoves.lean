/- A place one farther is one column farther, or the first of the next line. -/
import Derived.Test.YtnkcffmklomfhaaYx5
import Derived.Test.YtnkcffmklomfhaaScanS
namespace Go.Proofs.Ytnkcffmklomfhaa.Pure
open Go Go.RowKit Go.Proofs.Ytnkcffmklomfhaa.Y Go.Proofs.YtnkcffmklomfhaaW.PrintWords Go.Proofs.YtnkcffmklomfhaaW.PrintLast Go.Proofs.Ytnkcffmklomfhaa.PL Go.Proofs.Ytnkcffmklomfhaa.ScanS
set_option linter.unusedSimpArgs false
set_option linter.unusedVariables false
theorem ScanMoves : glebelaw7_ScanMoves.Pure := by
  intro b h1 h2 h3
  apply Ev.rounds
  have hB := u8_of_wf h3
  have hfin : Ev (fun k => (glebelaw7_awake.f k).bind fun t => some t) true := Ev.bind (g := fun k => glebelaw7_awake.f k) awS (Ev.now _)
  by_cases hlen : (b.length : Int) > 300
  · refine Ev.congr (fun k => ?_) hfin
    unfold glebelaw7_ScanMoves.f
    rw [if_pos hlen]
  have hb : b.length < 1000000 := by omega
  have hW : ∀ n : Nat, n ≤ b.length → Ev (fun k => scan_Where.f k b (n : Int)) (whr b n) := fun n hn => by
    have := Where_run b hb hB (n : Int)
    rw [clamp_nat b n hn] at this
    exact this
  have hend : Ev (fun k => scan_Where.f k b ((b.length + 7 : Nat) : Int)) (whr b b.length) := by
    have := Where_run b hb hB ((b.length + 7 : Nat) : Int)
    have e : clamp b ((b.length + 7 : Nat) : Int) = b.length := by
      unfold clamp mn mx
      (repeat' split) <;> omega
    rw [e] at this
    exact this
  have hw7 : wrap64 ((b.length : Int) + 7) = ((b.length + 7 : Nat) : Int) := by unfold wrap64; omega
  have hl : ∀ (d n : Nat), n + d = b.length → Ev (fun k => glebelaw7_ScanMoves.l0 k b (whr b n).1 (whr b n).2 (b.length : Int) (n : Int)) true := by
    intro d
    induction d with
    | zero =>
      intro n hn
      obtain rfl : n = b.length := by omega
      refine Ev.step (f := fun k => (scan_Where.f k b ((b.length + 7 : Nat) : Int)).bind fun bt207 => (if bt207.1 = (whr b b.length).1 then (if bt207.2 = (whr b b.length).2 then ((glebelaw7_awake.f k).bind fun t209 => (some t209)) else (none)) else (none))) (fun k => ?_) (Ev.bind (g := fun k => scan_Where.f k b ((b.length + 7 : Nat) : Int)) hend (Ev.congr (fun k => ?_) hfin))
      · simp only [glebelaw7_ScanMoves.l0]
        rw [if_neg (by omega), hw7]
      · rw [if_pos rfl, if_pos rfl]
    | succ d ih =>
      intro n hn
      have hc1 := cnt_le b n
      have hc2 := lb_range b n
      have ih' := ih (n + 1) (by omega)
      refine Ev.step (f := fun k => (scan_Where.f k b ((n + 1 : Nat) : Int)).bind fun bt202 => (if 0 ≤ (n : Int) then (if (n : Int) < (b.length : Int) then (if (rd b (n : Int)) = 10 then (if bt202.1 = (wrap64 ((whr b n).1 + 1)) then (if bt202.2 = 1 then (glebelaw7_ScanMoves.l0 k b bt202.1 bt202.2 (b.length : Int) ((n + 1 : Nat) : Int)) else (none)) else (none)) else (if bt202.1 = (whr b n).1 then (if bt202.2 = (wrap64 ((whr b n).2 + 1)) then (glebelaw7_ScanMoves.l0 k b bt202.1 bt202.2 (b.length : Int) ((n + 1 : Nat) : Int)) else (none)) else (none))) else (none)) else (none))) (fun k => ?_) (Ev.bind (g := fun k => scan_Where.f k b ((n + 1 : Nat) : Int)) (hW (n + 1) (by omega)) (Ev.congr (fun k => ?_) ih'))
      · simp only [glebelaw7_ScanMoves.l0]
        rw [if_pos (by omega), wrap_n1 n (by omega)]
      · rw [if_pos (by omega), if_pos (by omega)]
        by_cases h10 : rd b (n : Int) = 10
        · rw [if_pos h10, whr_nl b n h10, wrap_in (by unfold whr; simp only; omega) (by unfold whr; simp only; omega), if_pos rfl, if_pos rfl]
        · rw [if_neg h10, whr_other b n h10, wrap_in (by unfold whr; simp only; omega) (by unfold whr; simp only; omega), if_pos rfl, if_pos rfl]
  have h0 := hW 0 (Nat.zero_le _)
  rw [whr_zero] at h0
  refine Ev.congr (f := fun k => (scan_Where.f k b ((0 : Nat) : Int)).bind fun bt200 => (if bt200.1 = 1 then (glebelaw7_ScanMoves.j0 k b bt200.1 bt200.2 (bt200.2 != 1)) else (glebelaw7_ScanMoves.j0 k b bt200.1 bt200.2 true))) (fun k => ?_) (Ev.bind (g := fun k => scan_Where.f k b ((0 : Nat) : Int)) h0 (Ev.congr (f := fun k => glebelaw7_ScanMoves.j0 k b 1 1 false) (fun k => ?_) (Ev.step (f := fun k => glebelaw7_ScanMoves.l0 k b (whr b 0).1 (whr b 0).2 (b.length : Int) ((0 : Nat) : Int)) (fun k => ?_) (hl b.length 0 (by omega)))))
  · unfold glebelaw7_ScanMoves.f
    rw [if_neg hlen]
    rfl
  · rfl
  · simp only [glebelaw7_ScanMoves.j0]
    rfl
end Go.Proofs.Ytnkcffmklomfhaa.Pure
