/- Each second has a day and a clock that are it again; the next second is later; the next day's is the next day of the week. -/
import Derived.Test.YtcgchblljhbdaaaDoorZx3
import Derived.Test.YtcgchblljhbdaaaDoorZx9
import Derived.Test.YtcgchblljhbdaaaDoorDateP
namespace Go.Proofs.YtcgchblljhbdaaaDoor.Pure
open Go Go.RowKit Go.Proofs.YtcgchblljhbdaaaDoor.Z Go.Proofs.YtcgchblljhbdaaaDoorW.PrintWords Go.Proofs.YtcgchblljhbdaaaDoorW.PrintMore Go.Proofs.YtcgchblljhbdaaaDoorW.PrintLast Go.Proofs.YtcgchblljhbdaaaDoor.PL Go.Proofs.YtcgchblljhbdaaaDoor.PB Go.Proofs.YtcgchblljhbdaaaDoor.NumS Go.Proofs.YtcgchblljhbdaaaDoor.DateS
set_option linter.unusedSimpArgs false
set_option linter.unusedVariables false
theorem awZ : Ev (fun k => glebelaw6_awake.f k) true := Ev.of (fun k => glebelaw6_awake.mono k) (k := 400) (by kernel_rfl)
theorem finZ : Ev (fun k => (glebelaw6_awake.f k).bind fun t => some t) true := Ev.bind (g := fun k => glebelaw6_awake.f k) awZ (Ev.now _)
theorem u64_of_wf {x : Int} (h : (Lit.int .u64 x).wf = true) : 0 ≤ x ∧ x < 18446744073709551616 := by
  have h8 : IntKind.u64.min = 0 ∧ IntKind.u64.max = 18446744073709551615 := by decide
  simp [Lit.wf] at h
  omega
theorem num' (l : List Int) (hl : l.length < 1048576) (hB : ∀ x ∈ l, 0 ≤ x ∧ x < 256) (M : Int) (M0 : 0 ≤ M) (M1 : M < 18446744073709551616) : Ev (fun k => date_Num.f k (strOfNums l) M) (numV l M) := by
  have := num (strOfNums l) (by rw [size_strOf]; exact hl) M M0 M1
  rw [bytesOf_strOf l hB] at this
  exact this
theorem week_f (s : Nat) (h : s < 18446744073709551616) : date_Week.f (s : Int) = some (((s / 86400 + 4) % 7 : Nat) : Int) := by
  unfold date_Week.f
  rw [td (by omega), uw ((s : Int) / 86400) (by omega) (by omega), uw _ (by omega) (by omega), tmod_nn (by omega), wrap_in (by omega) (by omega)]
  congr 1
theorem back_j (sec : Nat) (hs : sec < 253402300799) : Ev (fun k => glebelaw6_DateBack.j0 k (sec : Int) false) true := by
  have e1 : IntKind.u64.wrap ((sec : Int) + 1) = ((sec + 1 : Nat) : Int) := uw _ (by omega) (by omega)
  have e2 : IntKind.u64.wrap ((sec : Int) + 86400) = ((sec + 86400 : Nat) : Int) := uw _ (by omega) (by omega)
  have q1 := num' (digs sec) (by have := digs_le20 sec (by omega); omega) (digs_byte sec) (sec : Int) (by omega) (by omega)
  have q2 := num' (digs (sec + 1)) (by have := digs_le20 (sec + 1) (by omega); omega) (digs_byte (sec + 1)) (sec : Int) (by omega) (by omega)
  rw [numV_digs, if_pos (by omega)] at q1
  rw [numV_digs, if_neg (by omega)] at q2
  refine Ev.step (f := ?qf0) ?qh0 ?qk0
  case qh0 =>
    intro k
    simp only [glebelaw6_DateBack.j0]
    rw [if_neg (by simp), text_f sec (by omega), e1, text_f (sec + 1) (by omega), e2, week_f sec (by omega), week_f (sec + 86400) (by omega)]
  refine Ev.bind (g := fun k => date_Num.f k (strOfNums (digs sec)) (sec : Int)) q1 (Ev.bind (g := fun k => date_Num.f k (strOfNums (digs (sec + 1))) (sec : Int)) q2 (Ev.congr (fun k => ?_) finZ))
  have e3 : Int.tmod (wrap64 ((((sec / 86400 + 4) % 7 : Nat) : Int) + 1)) 7 = (((sec + 86400) / 86400 + 4) % 7 : Nat) := by
    rw [wrap_in (by omega) (by omega), tmod_nn (by omega)]
    omega
  rw [if_pos rfl, if_pos rfl, if_neg (by simp), Option.bind_some, Option.bind_some, if_pos e3]
theorem less_self (x : List UInt8) : Op.bytesLess x x = false := by
  have := less_app x [] []
  rw [List.append_nil] at this
  rw [this]
  rfl
theorem DateBack : glebelaw6_DateBack.Pure := by
  intro a0 h
  apply Ev.rounds
  have hu := u64_of_wf h
  obtain ⟨sec, hsec, hs⟩ : ∃ sec : Nat, Int.tmod a0 253402300799 = (sec : Int) ∧ sec < 253402300799 := ⟨(a0 % 253402300799).toNat, by rw [tmod_nn hu.1]; omega, by omega⟩
  have e1 : IntKind.u64.wrap ((sec : Int) + 1) = ((sec + 1 : Nat) : Int) := uw _ (by omega) (by omega)
  obtain ⟨y, m, d, y0, y1, m0, m1, d0, d1, hn, b1, b2, b3, b4, hp⟩ := print sec (by omega)
  obtain ⟨y', m', d', y0', y1', m0', m1', d0', d1', hn', b1', b2', b3', b4', hp'⟩ := print (sec + 1) (by omega)
  have q := parse y m d (sec % 86400 / 3600) (sec % 86400 / 60 % 60) (sec % 86400 % 60) y0 y1 m0 m1 d0 d1 (by omega) (by omega) (by omega)
  have q' := parse y' m' d' ((sec + 1) % 86400 / 3600) ((sec + 1) % 86400 / 60 % 60) ((sec + 1) % 86400 % 60) y0' y1' m0' m1' d0' d1' (by omega) (by omega) (by omega)
  have v : secOf (Yr y + ((d : Int) - 1) + mst y (m - 1)) (sec % 86400 / 3600) (sec % 86400 / 60 % 60) (sec % 86400 % 60) = (sec : Int) := by
    unfold secOf
    have : Yr y + ((d : Int) - 1) + mst y (m - 1) = ((sec / 86400 : Nat) : Int) := by omega
    rw [this]
    omega
  have v' : secOf (Yr y' + ((d' : Int) - 1) + mst y' (m' - 1)) ((sec + 1) % 86400 / 3600) ((sec + 1) % 86400 / 60 % 60) ((sec + 1) % 86400 % 60) = ((sec + 1 : Nat) : Int) := by
    unfold secOf
    have : Yr y' + ((d' : Int) - 1) + mst y' (m' - 1) = (((sec + 1) / 86400 : Nat) : Int) := by omega
    rw [this]
    omega
  rw [v] at q
  rw [v'] at q'
  have hd100 : d < 100 ∧ d' < 100 := by
    have r1 := longV_range (y : Int) (m : Int)
    have r2 := longV_range (y' : Int) (m' : Int)
    omega
  have hyy : y ≤ y' := by
    by_cases g : y ≤ y'
    · exact g
    · exfalso
      have := Yr_mono (a := ((y' + 1 : Nat) : Int)) (b := (y : Int)) (by omega)
      omega
  refine Ev.congr (f := ?qf0) ?qh0 ?qk0
  case qh0 =>
    intro k
    unfold glebelaw6_DateBack.f
    rw [hsec, e1]
  refine Ev.bind (g := fun k => date_Print.f k (sec : Int)) hp (Ev.bind (g := fun k => date_Parse.f k (strOfNums (dayT y m d)) (strOfNums (clockT (sec % 86400)))) q (Ev.bind (g := fun k => date_Print.f k ((sec + 1 : Nat) : Int)) hp' (Ev.bind (g := fun k => date_Parse.f k (strOfNums (dayT y' m' d')) (strOfNums (clockT ((sec + 1) % 86400)))) q' ?_)))
  refine Ev.congr (fun k => ?_) (back_j sec hs)
  rw [if_pos rfl, if_pos rfl, if_pos rfl, if_pos rfl, if_pos rfl, if_pos rfl]
  by_cases hday : (sec + 1) / 86400 = sec / 86400
  · rw [hday] at hn' b1' b2' b3' b4'
    have ey : y = y' := by
      by_cases g : y = y'
      · exact g
      · exfalso
        have := Yr_mono (a := ((y + 1 : Nat) : Int)) (b := (y' : Int)) (by omega)
        omega
    subst ey
    have em : m = m' := by
      by_cases g : m < m'
      · exfalso
        have := mst_mono y (m' - 1 - m) m
        rw [show m + (m' - 1 - m) = m' - 1 by omega] at this
        omega
      · by_cases g2 : m' < m
        · exfalso
          have := mst_mono y (m - 1 - m') m'
          rw [show m' + (m - 1 - m') = m - 1 by omega] at this
          omega
        · omega
    subst em
    have ed : d = d' := by omega
    subst ed
    have hc := clock_less (sec % 86400 / 3600) (sec % 86400 / 60 % 60) (sec % 86400 % 60) ((sec + 1) % 86400 / 3600) ((sec + 1) % 86400 / 60 % 60) ((sec + 1) % 86400 % 60) (by omega) (by omega) (by omega) (by omega)
    obtain ⟨g1, g2⟩ := less_not _ _ hc
    have g3 : ¬ (Op.bytesLess (strOfNums (clockT ((sec + 1) % 86400))).toList (strOfNums (clockT (sec % 86400))).toList = true) := by
      intro z
      exact absurd (g1.symm.trans z) (by simp)
    have g4 : ¬ ((strOfNums (clockT ((sec + 1) % 86400))).toList = (strOfNums (clockT (sec % 86400))).toList) := fun z => g2 z.symm
    rw [if_neg (by rw [less_self]; simp), if_pos rfl, if_neg g3, if_neg g4]
  · have hnext : (sec + 1) / 86400 = sec / 86400 + 1 := by omega
    rw [hnext] at hn' b1' b2' b3' b4'
    have hlt : y < y' ∨ y = y' ∧ (m < m' ∨ m = m' ∧ d < d') := by
      by_cases g : y < y'
      · exact .inl g
      · have ey : y = y' := by omega
        subst ey
        refine .inr ⟨rfl, ?_⟩
        by_cases g1 : m < m'
        · exact .inl g1
        · by_cases g2 : m' < m
          · exfalso
            have := mst_mono y (m - 1 - m') m'
            rw [show m' + (m - 1 - m') = m - 1 by omega] at this
            omega
          · have em : m = m' := by omega
            subst em
            exact .inr ⟨rfl, by omega⟩
    have hc := day_less y m d y' m' d' (by omega) (by omega) hd100.2 hlt
    obtain ⟨g1, g2⟩ := less_not _ _ hc
    have g3 : ¬ (Op.bytesLess (strOfNums (dayT y' m' d')).toList (strOfNums (dayT y m d)).toList = true) := by
      intro z
      exact absurd (g1.symm.trans z) (by simp)
    rw [if_neg g3, if_neg (fun z => g2 z.symm)]
end Go.Proofs.YtcgchblljhbdaaaDoor.Pure
