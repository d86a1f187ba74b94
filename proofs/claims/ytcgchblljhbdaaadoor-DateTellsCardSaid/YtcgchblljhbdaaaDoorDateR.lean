/- The document's days and clocks come to the same. -/
import Derived.Test.YtcgchblljhbdaaaDoorDateQ
namespace Go.Proofs.YtcgchblljhbdaaaDoor.DateS
open Go Go.RowKit Go.Proofs.YtcgchblljhbdaaaDoorW.PrintWords Go.Proofs.YtcgchblljhbdaaaDoorW.PrintMore Go.Proofs.YtcgchblljhbdaaaDoor.PL Go.Proofs.YtcgchblljhbdaaaDoor.PB Go.Proofs.YtcgchblljhbdaaaDoor.NumS Go.Proofs.YtcgchblljhbdaaaDoor.Z
set_option linter.unusedSimpArgs false
set_option linter.unusedVariables false
theorem rleap (y : Int) (h : 0 ≤ y) : gleberef1_leap.f y = some (leapB y) := by
  unfold gleberef1_leap.f leapB
  rw [tmod_nn h, tmod_nn h, tmod_nn h]
  by_cases h4 : y % 4 = 0
  · rw [if_pos h4]
    by_cases h1 : y % 100 = 0
    · rw [if_pos h1]
      by_cases h2 : y % 400 = 0 <;> simp [h4, h1, h2]
    · rw [if_neg h1]
      simp [h4, h1]
  · have h2 : ¬ y % 400 = 0 := by omega
    rw [if_neg h4]
    simp [h4, h2]
theorem rtab (y : Int) (hy : 0 ≤ y) (i : Nat) (hi : i < 12) : gleberef1_month.f y ((i + 1 : Nat) : Int) = some (longV y ((i + 1 : Nat) : Int)) := by
  have hi' : i = 0 ∨ i = 1 ∨ i = 2 ∨ i = 3 ∨ i = 4 ∨ i = 5 ∨ i = 6 ∨ i = 7 ∨ i = 8 ∨ i = 9 ∨ i = 10 ∨ i = 11 := by omega
  unfold gleberef1_month.f longV
  rw [rleap y hy, Option.bind_some]
  rcases hi' with rfl | rfl | rfl | rfl | rfl | rfl | rfl | rfl | rfl | rfl | rfl | rfl <;> generalize leapB y = lb <;> cases lb <;> first | kernel_rfl | (show some _ = some _; kernel_rfl) | decide +kernel
theorem rmonth (y m : Int) (hy : 0 ≤ y) (h1 : 1 ≤ m) (h2 : m ≤ 12) : gleberef1_month.f y m = some (longV y m) := by
  have := rtab y hy (m - 1).toNat (by omega)
  have e : (((m - 1).toNat + 1 : Nat) : Int) = m := by omega
  rw [e] at this
  exact this
theorem rdays_run (y : Nat) (y0 : 1 ≤ y) (y1 : y ≤ 10000) (m : Nat) (hm : m ≤ 12) (base : Int) (b0 : -1000 ≤ base) (b1 : base ≤ 1000) : ∀ (d j : Nat), j + d = m → 1 ≤ j → Ev (fun k => gleberef1_days.l0 k (y : Int) (m : Int) (base + mst y (j - 1)) (j : Int)) (Yr y + mst y (m - 1) + base) := by
  intro d
  induction d with
  | zero =>
    intro j hj hj1
    obtain rfl : j = m := by omega
    have hb := mst_bound y (j - 1) (by omega)
    refine Ev.step (f := fun _ => some _) (fun k => ?_) (Ev.now _)
    simp only [gleberef1_days.l0]
    rw [if_neg (by omega), wrap_in (x := (y : Int) - 1970) (by omega) (by omega), wrap_in (x := (y : Int) - 1) (by omega) (by omega), td (x := (y : Int) - 1) (by omega), td (x := (y : Int) - 1) (by omega), td (x := (y : Int) - 1) (by omega), wrap_in (x := ((y : Int) - 1) / 4) (by omega) (by omega), wrap_in (x := ((y : Int) - 1) / 100) (by omega) (by omega), wrap_in (x := ((y : Int) - 1) / 400) (by omega) (by omega), wrap_in (x := 365 * ((y : Int) - 1970)) (by omega) (by omega)]
    generalize hq4 : ((y : Int) - 1) / 4 = q4
    generalize hq1 : ((y : Int) - 1) / 100 = q1
    generalize hq0 : ((y : Int) - 1) / 400 = q0
    have z4 : -10000 ≤ q4 ∧ q4 ≤ 10000 := by omega
    have z1 : -10000 ≤ q1 ∧ q1 ≤ 10000 := by omega
    have z0 : -10000 ≤ q0 ∧ q0 ≤ 10000 := by omega
    generalize hp : 365 * ((y : Int) - 1970) = p
    have zp : -10000000 ≤ p ∧ p ≤ 10000000 := by omega
    rw [wrap_in (x := base + mst y (j - 1) + p) (by omega) (by omega), wrap_in (x := base + mst y (j - 1) + p + q4) (by omega) (by omega), wrap_in (x := base + mst y (j - 1) + p + q4 - q1) (by omega) (by omega), wrap_in (x := base + mst y (j - 1) + p + q4 - q1 + q0) (by omega) (by omega), wrap_in (x := base + mst y (j - 1) + p + q4 - q1 + q0 - 492) (by omega) (by omega), wrap_in (x := base + mst y (j - 1) + p + q4 - q1 + q0 - 492 + 19) (by omega) (by omega), wrap_in (by omega) (by omega)]
    unfold Yr
    rw [hp, hq4, hq1, hq0]
    congr 1
    omega
  | succ d ih =>
    intro j hj hj1
    have hb := mst_bound y (j - 1) (by omega)
    have hlr := longV_range (y : Int) (j : Int)
    have e : mst y (j + 1 - 1) = mst y (j - 1) + longV y (j : Int) := by
      obtain ⟨q, rfl⟩ : ∃ q, j = q + 1 := ⟨j - 1, by omega⟩
      rfl
    refine Ev.step (fun k => ?_) (ih (j + 1) (by omega) (by omega))
    simp only [gleberef1_days.l0]
    rw [if_pos (by omega), rmonth (y : Int) (j : Int) (by omega) (by omega) (by omega), Option.bind_some, wrap_nat (by omega), wrap_in (by omega) (by omega), e, Int.add_assoc]
theorem rdays (y : Nat) (y0 : 1 ≤ y) (y1 : y ≤ 10000) (m : Nat) (m0 : 1 ≤ m) (hm : m ≤ 12) (d : Int) (b0 : -900 ≤ d) (b1 : d ≤ 900) : Ev (fun k => gleberef1_days.f k (y : Int) (m : Int) d) (Yr y + mst y (m - 1) + (d - 1)) := by
  have h := rdays_run y y0 y1 m hm (d - 1) (by omega) (by omega) (m - 1) 1 (by omega) (by omega)
  have e : d - 1 + mst y (1 - 1) = d - 1 := by show _ + 0 = _; omega
  rw [e] at h
  refine Ev.congr (fun k => ?_) h
  unfold gleberef1_days.f
  rw [wrap_in (by omega) (by omega)]
  rfl
theorem rtwo (n : Nat) (h : n < 100) : Ev (fun k => gleberef1_two.f k (n : Int)) (strOfNums (two n)) := by
  have ht := rtext n (by omega)
  have hw : IntKind.u64.wrap (n : Int) = (n : Int) := uw _ (by omega) (by omega)
  by_cases h10 : n < 10
  · have e1 : (strOfNums (digs n)).size = 1 := by rw [size_strOf, digs_small h10]; rfl
    have e2 : (⟨#[48]⟩ : ByteArray) ++ strOfNums (digs n) = strOfNums (two n) := by
      rw [digs_small h10]
      have : (⟨#[48]⟩ : ByteArray) = strOfNums [48] := rfl
      rw [this, ← strOf_app]
      unfold two
      rw [Nat.div_eq_of_lt h10, Nat.mod_eq_of_lt h10]
      rfl
    refine Ev.congr (f := ?qf0) ?qh0 ?qk0
    case qh0 =>
      intro k
      unfold gleberef1_two.f
      rw [if_pos (by omega), hw]
    refine Ev.bind (g := fun k => gleberef1_Text.f k (n : Int)) ht (Ev.congr (fun k => ?_) (Ev.now _))
    rw [if_pos (by omega), e2]
  · refine Ev.congr (f := ?qf1) ?qh1 ?qk1
    case qh1 =>
      intro k
      unfold gleberef1_two.f
      rw [if_neg (by omega), hw]
    rw [digs_two (by omega) h] at ht
    exact Ev.bind (g := fun k => gleberef1_Text.f k (n : Int)) ht (Ev.now _)
theorem rj3 (n : Int) (n0 : 0 ≤ n) (n1 : n < 3000000) (t : Nat) (ht : t < 86400) (y m D : Nat) (y0 : 1970 ≤ y) (y1 : y ≤ 9999) (m0 : 1 ≤ m) (m1 : m ≤ 12) (hD : n = Yr y + mst y (m - 1) + (D : Int)) (eD : D + 1 < 100) :
    Ev (fun k => gleberef1_PrintDate.j3 k n (t : Int) (y : Int) (m : Int)) (strOfNums (dayT y m (D + 1)), strOfNums (clockT t), true) := by
  have hb := Yr_bound y (by omega) y0
  have hmb := mst_bound y (m - 1) (by omega)
  have hd := rdays y (by omega) (by omega) m m0 m1 1 (by omega) (by omega)
  have e1 : Yr y + mst y (m - 1) + (1 - 1) = Yr y + mst y (m - 1) := by omega
  rw [e1] at hd
  have hdd : wrap64 ((wrap64 (n - (Yr y + mst y (m - 1)))) + 1) = ((D + 1 : Nat) : Int) := by
    rw [wrap_in (x := n - (Yr y + mst y (m - 1))) (by omega) (by omega), wrap_in (by omega) (by omega)]
    omega
  have z4 : (strOfNums (four y)).size = 4 := by rw [size_strOf]; rfl
  have z2 : ∀ n, (strOfNums (two n)).size = 2 := fun n => by rw [size_strOf]; rfl
  have a1 := z2 m
  have a2 := z2 (D + 1)
  have a3 := z2 (t / 3600)
  have a4 := z2 (t / 60 % 60)
  have a5 := z2 (t % 60)
  have b1 : t / 3600 < 100 := by omega
  have b2 : t / 60 % 60 < 100 := by omega
  have b3 : t % 60 < 100 := by omega
  have hm100 : m < 100 := by omega
  have hy := rtext y (by omega)
  rw [digs_four (by omega) (by omega)] at hy
  have hyw : IntKind.u64.wrap (y : Int) = (y : Int) := uw _ (by omega) (by omega)
  unfold clockT
  refine Ev.step (f := ?qf0) ?qh0 ?qk0
  case qh0 =>
    intro k
    simp only [gleberef1_PrintDate.j3]
    rw [hyw, wt2 t ht, wt3 t ht, wt4 t]
  refine Ev.bind (g := fun k => gleberef1_days.f k (y : Int) (m : Int) 1) hd (Ev.bind (g := fun k => gleberef1_Text.f k (y : Int)) hy ?_)
  refine Ev.congr (f := ?qf1) ?qh1 ?qk1
  case qh1 =>
    intro k
    rw [if_pos (by clear hdd hyw hD hb hmb e1; omega), hdd]
  clear hdd hyw hD hb hmb e1 n0 n1 hd hy
  refine Ev.bind (g := fun k => gleberef1_two.f k (m : Int)) (rtwo m hm100) ?_
  refine Ev.congr (f := ?qf2) ?qh2 ?qk2
  case qh2 =>
    intro k
    rw [if_pos (by omega), if_pos (by omega)]
  refine Ev.bind (g := fun k => gleberef1_two.f k ((D + 1 : Nat) : Int)) (rtwo (D + 1) eD) ?_
  refine Ev.congr (f := ?qf3) ?qh3 ?qk3
  case qh3 =>
    intro k
    rw [if_pos (by omega)]
  refine Ev.bind (g := fun k => gleberef1_two.f k ((t / 3600 : Nat) : Int)) (rtwo (t / 3600) b1) ?_
  refine Ev.congr (f := ?qf4) ?qh4 ?qk4
  case qh4 =>
    intro k
    rw [if_pos (by omega)]
  refine Ev.bind (g := fun k => gleberef1_two.f k ((t / 60 % 60 : Nat) : Int)) (rtwo (t / 60 % 60) b2) ?_
  refine Ev.congr (f := ?qf5) ?qh5 ?qk5
  case qh5 =>
    intro k
    rw [if_pos (by omega), if_pos (by omega)]
  refine Ev.bind (g := fun k => gleberef1_two.f k ((t % 60 : Nat) : Int)) (rtwo (t % 60) b3) (Ev.congr (fun k => ?_) (Ev.now _))
  rw [if_pos (by omega), day_cat, clock_cat]
theorem rmonths (n : Int) (t : Nat) (y : Nat) (y0 : 1970 ≤ y) (y1 : y ≤ 9999) (ms : Nat) (m1 : 1 ≤ ms) (m2 : ms ≤ 12) (h1 : Yr y + mst y (ms - 1) ≤ n) (h2 : n < Yr y + mst y ms) {R : ByteArray × ByteArray × Bool} (hR : Ev (fun k => gleberef1_PrintDate.j3 k n (t : Int) (y : Int) (ms : Int)) R) : ∀ (d j : Nat), j + d = ms → 1 ≤ j →
    Ev (fun k => gleberef1_PrintDate.l1 k n (t : Int) (y : Int) (j : Int)) R := by
  intro d
  induction d with
  | zero =>
    intro j hj hj1
    obtain rfl : j = ms := by omega
    by_cases h12 : j < 12
    · have hd := rdays y (by omega) (by omega) (j + 1) (by omega) (by omega) 1 (by omega) (by omega)
      refine Ev.step (f := ?qf0) ?qh0 ?qk0
      case qh0 =>
        intro k
        simp only [gleberef1_PrintDate.l1]
        rw [if_pos (by omega), wrap_nat (by omega)]
      refine Ev.bind (g := fun k => gleberef1_days.f k (y : Int) ((j + 1 : Nat) : Int) 1) hd (Ev.congr (fun k => ?_) hR)
      have e : j + 1 - 1 = j := by omega
      rw [e, if_neg (by omega)]
    · refine Ev.step (fun k => ?_) hR
      simp only [gleberef1_PrintDate.l1]
      rw [if_neg (by omega)]
  | succ d ih =>
    intro j hj hj1
    have hd := rdays y (by omega) (by omega) (j + 1) (by omega) (by omega) 1 (by omega) (by omega)
    have hmono := mst_mono y (ms - 1 - j) j
    rw [show j + (ms - 1 - j) = ms - 1 by omega] at hmono
    refine Ev.step (f := ?qf1) ?qh1 ?qk1
    case qh1 =>
      intro k
      simp only [gleberef1_PrintDate.l1]
      rw [if_pos (by omega), wrap_nat (by omega)]
    refine Ev.bind (g := fun k => gleberef1_days.f k (y : Int) ((j + 1 : Nat) : Int) 1) hd (Ev.congr (fun k => ?_) (ih (j + 1) (by omega) (by omega)))
    have e : j + 1 - 1 = j := by omega
    rw [e, if_pos (by omega)]
theorem ryears (n : Int) (t : Nat) (ys : Nat) (hy : ys ≤ 9999) (h1 : Yr ys ≤ n) (h2 : n < Yr ((ys + 1 : Nat) : Int)) {R : ByteArray × ByteArray × Bool} (hR : Ev (fun k => gleberef1_PrintDate.j1 k n (t : Int) (ys : Int)) R) : ∀ (d j : Nat), j + d = ys → 1970 ≤ j →
    Ev (fun k => gleberef1_PrintDate.l0 k n (t : Int) (j : Int)) R := by
  intro d
  induction d with
  | zero =>
    intro j hj hj0
    obtain rfl : j = ys := by omega
    by_cases h9 : j < 9999
    · have hd := rdays (j + 1) (by omega) (by omega) 1 (by omega) (by omega) 1 (by omega) (by omega)
      refine Ev.step (f := ?qf0) ?qh0 ?qk0
      case qh0 =>
        intro k
        simp only [gleberef1_PrintDate.l0]
        rw [if_pos (by omega), wrap_nat (by omega)]
      refine Ev.bind (g := fun k => gleberef1_days.f k ((j + 1 : Nat) : Int) 1 1) hd (Ev.congr (fun k => ?_) hR)
      have e : mst ((j + 1 : Nat) : Int) (1 - 1) = 0 := rfl
      rw [e, if_neg (by omega)]
    · refine Ev.step (fun k => ?_) hR
      simp only [gleberef1_PrintDate.l0]
      rw [if_neg (by omega)]
  | succ d ih =>
    intro j hj hj0
    have hd := rdays (j + 1) (by omega) (by omega) 1 (by omega) (by omega) 1 (by omega) (by omega)
    have hm := Yr_mono (a := ((j + 1 : Nat) : Int)) (b := (ys : Int)) (by omega)
    refine Ev.step (f := ?qf1) ?qh1 ?qk1
    case qh1 =>
      intro k
      simp only [gleberef1_PrintDate.l0]
      rw [if_pos (by omega), wrap_nat (by omega)]
    refine Ev.bind (g := fun k => gleberef1_days.f k ((j + 1 : Nat) : Int) 1 1) hd (Ev.congr (fun k => ?_) (ih (j + 1) (by omega) (by omega)))
    have e : mst ((j + 1 : Nat) : Int) (1 - 1) = 0 := rfl
    rw [e, if_pos (by omega)]
theorem we1 (sec : Nat) (hs : sec ≤ 253402300799) : wrap64 (IntKind.u64.wrap (Int.tdiv (sec : Int) 86400)) = ((sec / 86400 : Nat) : Int) := by
  rw [td (by omega), uw _ (by omega) (by omega), wrap_in (by omega) (by omega)]
  omega
theorem we2 (sec : Nat) : wrap64 (Int.tmod (sec : Int) 86400) = ((sec % 86400 : Nat) : Int) := by
  rw [tmod_nn (by omega), wrap_in (by omega) (by omega)]
  omega
theorem we3 (sec : Nat) (hs : sec ≤ 253402300799) : wrap64 (1970 + (wrap64 (Int.tdiv ((sec / 86400 : Nat) : Int) 366))) = ((1970 + sec / 86400 / 366 : Nat) : Int) := by
  rw [td (by omega), wrap_in (x := ((sec / 86400 : Nat) : Int) / 366) (by omega) (by omega), wrap_in (by omega) (by omega)]
  omega
theorem rprint (sec : Nat) (hs : sec ≤ 253402300799) (y m d : Nat) (y0 : 1970 ≤ y) (y1 : y ≤ 9999) (m0 : 1 ≤ m) (m1 : m ≤ 12) (d0 : 1 ≤ d) (d1 : (d : Int) ≤ longV y m) (hn : Yr y + mst y (m - 1) + ((d : Int) - 1) = ((sec / 86400 : Nat) : Int)) (b1 : Yr y ≤ ((sec / 86400 : Nat) : Int)) (b2 : ((sec / 86400 : Nat) : Int) < Yr ((y + 1 : Nat) : Int)) (b4 : ((sec / 86400 : Nat) : Int) - Yr y < mst y m) :
    Ev (fun k => gleberef1_PrintDate.f k (sec : Int)) (strOfNums (dayT y m d), strOfNums (clockT (sec % 86400)), true) := by
  have hlr := longV_range (y : Int) (m : Int)
  have h3 := rj3 ((sec / 86400 : Nat) : Int) (by omega) (by omega) (sec % 86400) (by omega) y m (d - 1) y0 y1 m0 m1 (by omega) (by omega)
  rw [show d - 1 + 1 = d by omega] at h3
  have hm := rmonths _ (sec % 86400) y y0 y1 m m0 m1 (by omega) (by omega) h3 (m - 1) 1 (by omega) (by omega)
  have hj1 : Ev (fun k => gleberef1_PrintDate.j1 k ((sec / 86400 : Nat) : Int) ((sec % 86400 : Nat) : Int) (y : Int)) (strOfNums (dayT y m d), strOfNums (clockT (sec % 86400)), true) := Ev.step (fun k => by simp only [gleberef1_PrintDate.j1]; rfl) hm
  have hst : 1970 + sec / 86400 / 366 ≤ y := by
    have : Yr ((y + 1 : Nat) : Int) ≤ 366 * ((y : Int) + 1 - 1970) := by unfold Yr; omega
    omega
  have hyr := ryears _ (sec % 86400) y y1 b1 b2 hj1 (y - (1970 + sec / 86400 / 366)) (1970 + sec / 86400 / 366) (by omega) (by omega)
  refine Ev.congr (fun k => ?_) hyr
  unfold gleberef1_PrintDate.f
  rw [if_neg (by omega), we1 sec hs, we2 sec, we3 sec hs]
theorem rprint_far (sec : Nat) (hs : 253402300799 < sec) : Ev (fun k => gleberef1_PrintDate.f k (sec : Int)) ((⟨#[]⟩ : ByteArray), (⟨#[]⟩ : ByteArray), false) := by
  refine Ev.congr (fun k => ?_) (Ev.now _)
  unfold gleberef1_PrintDate.f
  rw [if_pos (by omega)]
theorem print_far (sec : Nat) (hs : 253402300799 < sec) : Ev (fun k => date_Print.f k (sec : Int)) ((⟨#[]⟩ : ByteArray), (⟨#[]⟩ : ByteArray), false) := by
  refine Ev.congr (fun k => ?_) (Ev.now _)
  unfold date_Print.f
  rw [if_pos (by omega)]
end Go.Proofs.YtcgchblljhbdaaaDoor.DateS
