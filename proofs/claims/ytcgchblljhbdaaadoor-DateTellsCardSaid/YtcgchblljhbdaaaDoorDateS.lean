/- Days and clocks, as numbers: years, months; a day's text, and back. -/
import Derived.Test.YtcgchblljhbdaaaDoorZx1
import Derived.Test.YtcgchblljhbdaaaDoorZx2
import Derived.Test.YtcgchblljhbdaaaDoorNumS
namespace Go.Proofs.YtcgchblljhbdaaaDoor.DateS
open Go Go.RowKit Go.Proofs.YtcgchblljhbdaaaDoorW.PrintWords Go.Proofs.YtcgchblljhbdaaaDoorW.PrintMore Go.Proofs.YtcgchblljhbdaaaDoor.PL Go.Proofs.YtcgchblljhbdaaaDoor.PB Go.Proofs.YtcgchblljhbdaaaDoor.NumS Go.Proofs.YtcgchblljhbdaaaDoor.Z
set_option linter.unusedSimpArgs false
set_option linter.unusedVariables false
def leapB (y : Int) : Bool := decide (y % 4 = 0 ∧ (y % 100 ≠ 0 ∨ y % 400 = 0))
theorem leap_f (y : Int) (h : 0 ≤ y) : date_leap.f y = some (leapB y) := by
  unfold date_leap.f leapB
  rw [tmod_nn h, tmod_nn h, tmod_nn h]
  by_cases h4 : y % 4 = 0
  · rw [if_pos h4]
    by_cases h1 : y % 100 = 0
    · rw [if_pos h1]
      by_cases h2 : y % 400 = 0 <;> simp [h4, h1, h2]
    · rw [if_neg h1]
      simp [h4, h1]
  · rw [if_neg h4]
    simp [h4]
def Yr (y : Int) : Int := 365 * (y - 1970) + (y - 1) / 4 - (y - 1) / 100 + (y - 1) / 400 - 477
theorem Yr_succ (y : Int) : Yr (y + 1) = Yr y + (if leapB y = true then 366 else 365) := by
  unfold Yr leapB
  by_cases h4 : y % 4 = 0
  · by_cases h1 : y % 100 = 0
    · by_cases h2 : y % 400 = 0
      · rw [if_pos (by simp [h4, h2])]; omega
      · rw [if_neg (by simp [h1, h2])]; omega
    · rw [if_pos (by simp [h4, h1])]; omega
  · rw [if_neg (by simp [h4])]; omega
theorem Yr_mono {a b : Int} (h : a ≤ b) : Yr a ≤ Yr b := by
  unfold Yr
  omega
theorem Yr_0 : Yr 1970 = 0 := by decide
theorem Yr_bound (y : Nat) (h : y ≤ 10000) (h0 : 1970 ≤ y) : 0 ≤ Yr y ∧ Yr y ≤ 3000000 := by
  unfold Yr
  omega
def longV (y m : Int) : Int := if m = 4 ∨ m = 6 ∨ m = 9 ∨ m = 11 then 30 else if m = 2 then (if leapB y = true then 29 else 28) else 31
theorem longV_range (y m : Int) : 28 ≤ longV y m ∧ longV y m ≤ 31 := by
  unfold longV
  repeat' split
  all_goals omega
theorem long_f (y m : Int) (hy : 0 ≤ y) : Ev (fun k => date_long.f k y m) (longV y m) := by
  have ht : Ev (fun k => date_long.j0 k y m true) 30 := Ev.step (f := fun _ => some 30) (fun k => by simp only [date_long.j0]; rw [if_pos trivial]) (Ev.now _)
  have hf : Ev (fun k => date_long.j0 k y m false) (if m = 2 then (if leapB y = true then 29 else 28) else 31) := by
    refine Ev.step (f := fun _ => some _) (fun k => ?_) (Ev.now _)
    simp only [date_long.j0]
    rw [if_neg (by simp), leap_f y hy, Option.bind_some]
    by_cases h2 : m = 2
    · rw [if_pos h2, if_pos h2]
      split <;> rfl
    · rw [if_neg h2, if_neg h2]
  unfold longV
  by_cases h4 : m = 4
  · rw [if_pos (.inl h4)]
    refine Ev.congr (fun k => ?_) ht
    unfold date_long.f
    rw [if_pos h4]
    simp [h4]
  · by_cases h6 : m = 6
    · rw [if_pos (.inr (.inl h6))]
      refine Ev.congr (fun k => ?_) ht
      unfold date_long.f
      rw [if_neg h4, if_pos h6]
      simp [h6]
    · by_cases h9 : m = 9
      · rw [if_pos (.inr (.inr (.inl h9)))]
        refine Ev.congr (fun k => ?_) ht
        unfold date_long.f
        rw [if_neg h4, if_neg h6, if_pos h9]
        simp [h9]
      · by_cases h11 : m = 11
        · rw [if_pos (.inr (.inr (.inr h11)))]
          refine Ev.congr (fun k => ?_) ht
          unfold date_long.f
          rw [if_neg h4, if_neg h6, if_neg h9]
          simp [h11]
        · rw [if_neg (by simp [h4, h6, h9, h11])]
          refine Ev.congr (fun k => ?_) hf
          unfold date_long.f
          have h11b : (m == 11) = false := by simpa using h11
          rw [if_neg h4, if_neg h6, if_neg h9, h11b]
def mst (y : Int) : Nat → Int
  | 0 => 0
  | m + 1 => mst y m + longV y ((m + 1 : Nat) : Int)
theorem mst_succ (y : Int) (m : Nat) : mst y (m + 1) = mst y m + longV y ((m + 1 : Nat) : Int) := rfl
theorem mst_12 (y : Int) : mst y 12 = if leapB y = true then 366 else 365 := by
  cases h : leapB y <;> simp [mst, longV, h]
theorem mst_mono (y : Int) : ∀ (d a : Nat), mst y a ≤ mst y (a + d) := by
  intro d
  induction d with
  | zero => intro a; exact Int.le_refl _
  | succ d ih =>
    intro a
    have := ih a
    have h2 := longV_range y ((a + d + 1 : Nat) : Int)
    have e : mst y (a + (d + 1)) = mst y (a + d) + longV y ((a + d + 1 : Nat) : Int) := rfl
    omega
theorem mst_bound (y : Int) (m : Nat) (h : m ≤ 12) : 0 ≤ mst y m ∧ mst y m ≤ 366 := by
  have h1 := mst_mono y m 0
  have h2 := mst_mono y (12 - m) m
  have e : m + (12 - m) = 12 := by omega
  rw [Nat.zero_add] at h1
  rw [e, mst_12] at h2
  have e0 : mst y 0 = 0 := rfl
  split at h2 <;> omega
/-! ### which year, which month -/
theorem year_of (n : Int) (h0 : 0 ≤ n) : ∀ d : Nat, n < Yr ((1970 + d : Nat) : Int) → ∃ y : Nat, 1970 ≤ y ∧ y < 1970 + d ∧ Yr y ≤ n ∧ n < Yr ((y + 1 : Nat) : Int) := by
  intro d
  induction d with
  | zero => intro h; exfalso; have e : Yr ((1970 + 0 : Nat) : Int) = 0 := Yr_0; omega
  | succ d ih =>
    intro h
    by_cases h2 : n < Yr ((1970 + d : Nat) : Int)
    · obtain ⟨y, g1, g2, g3, g4⟩ := ih h2
      exact ⟨y, g1, by omega, g3, g4⟩
    · exact ⟨1970 + d, by omega, by omega, by omega, h⟩
theorem month_of (y : Int) (r : Int) (h0 : 0 ≤ r) : ∀ d : Nat, r < mst y d → ∃ m : Nat, 1 ≤ m ∧ m ≤ d ∧ mst y (m - 1) ≤ r ∧ r < mst y m := by
  intro d
  induction d with
  | zero => intro h; exfalso; have e : mst y 0 = 0 := rfl; omega
  | succ d ih =>
    intro h
    by_cases h2 : r < mst y d
    · obtain ⟨m, g1, g2, g3, g4⟩ := ih h2
      exact ⟨m, g1, by omega, g3, g4⟩
    · exact ⟨d + 1, by omega, by omega, by simpa using h2, h⟩
/-! ### texts -/
def two (n : Nat) : List Int := [48 + ((n / 10 : Nat) : Int), 48 + ((n % 10 : Nat) : Int)]
def four (n : Nat) : List Int := two (n / 100) ++ two (n % 100)
theorem itoa_f (n : Nat) (h : n < 1000000) : strconv_Itoa.f (n : Int) = some (strOfNums (digs n)) := by
  unfold strconv_Itoa.f
  rw [if_pos (by omega), if_pos (by omega), ← digs_bytes, Lib.itoa_nonneg]
theorem digs_two {n : Nat} (h0 : 10 ≤ n) (h1 : n < 100) : digs n = two n := by
  rw [digs_big (by omega), digs_small (by omega)]
  rfl
theorem digs_four {n : Nat} (h0 : 1000 ≤ n) (h1 : n < 10000) : digs n = four n := by
  have e1 : n / 10 / 10 / 10 = n / 100 / 10 := by omega
  have e2 : n / 10 / 10 % 10 = n / 100 % 10 := by omega
  have e3 : n / 10 % 10 = n % 100 / 10 := by omega
  have e4 : n % 10 = n % 100 % 10 := by omega
  rw [digs_big (by omega), digs_big (by omega), digs_big (by omega), digs_small (by omega), e1, e2, e3, e4]
  rfl
theorem pad2 (n : Nat) (h : n < 100) : Ev (fun k => date_pad.f k (n : Int) 2) (strOfNums (two n)) := by
  have hz : ∀ l : List Int, (strOfNums l).size = l.length := size_strOf
  by_cases h10 : n < 10
  · have e1 : (strOfNums (digs n)).size = 1 := by rw [hz, digs_small h10]; rfl
    have e2 : (⟨#[48]⟩ : ByteArray) ++ strOfNums (digs n) = strOfNums (two n) := by
      rw [digs_small h10]
      have : (⟨#[48]⟩ : ByteArray) = strOfNums [48] := rfl
      rw [this, ← strOf_app]
      unfold two
      rw [Nat.div_eq_of_lt h10, Nat.mod_eq_of_lt h10]
      rfl
    have e3 : (strOfNums (two n)).size = 2 := by rw [hz]; rfl
    refine Ev.congr (f := fun k => date_pad.l0 k 2 (strOfNums (digs n))) (fun k => ?_) (Ev.step (f := fun k => date_pad.l0 k 2 (strOfNums (two n))) (fun k => ?_) (Ev.step (f := fun _ => some _) (fun k => ?_) (Ev.now _)))
    · unfold date_pad.f
      rw [itoa_f n (by omega)]
      rfl
    · simp only [date_pad.l0]
      rw [if_pos (by omega), if_pos (by omega), e2]
    · simp only [date_pad.l0]
      rw [if_neg (by omega)]
  · have e3 : (strOfNums (two n)).size = 2 := by rw [hz]; rfl
    refine Ev.congr (f := fun k => date_pad.l0 k 2 (strOfNums (two n))) (fun k => ?_) (Ev.step (f := fun _ => some _) (fun k => ?_) (Ev.now _))
    · unfold date_pad.f
      rw [itoa_f n (by omega), digs_two (by omega) h]
      rfl
    · simp only [date_pad.l0]
      rw [if_neg (by omega)]
theorem pad4 (n : Nat) (h0 : 1000 ≤ n) (h : n < 10000) : Ev (fun k => date_pad.f k (n : Int) 4) (strOfNums (four n)) := by
  have e3 : (strOfNums (four n)).size = 4 := by rw [size_strOf]; rfl
  refine Ev.congr (f := fun k => date_pad.l0 k 4 (strOfNums (four n))) (fun k => ?_) (Ev.step (f := fun _ => some _) (fun k => ?_) (Ev.now _))
  · unfold date_pad.f
    rw [itoa_f n (by omega), digs_four h0 h]
    rfl
  · simp only [date_pad.l0]
    rw [if_neg (by omega)]
def dayT (y m d : Nat) : List Int := four y ++ 47 :: (two m ++ 47 :: two d)
def clock3 (h i s : Nat) : List Int := two h ++ 58 :: (two i ++ 58 :: two s)
def clockT (t : Nat) : List Int := clock3 (t / 3600) (t / 60 % 60) (t % 60)
theorem two_byte (n : Nat) (h : n < 100) : ∀ x ∈ two n, 48 ≤ x ∧ x ≤ 57 := by
  intro x hx
  unfold two at hx
  simp only [List.mem_cons, List.mem_nil_iff, or_false] at hx
  rcases hx with rfl | rfl <;> omega
theorem four_byte (n : Nat) (h : n < 10000) : ∀ x ∈ four n, 48 ≤ x ∧ x ≤ 57 := by
  intro x hx
  unfold four at hx
  rcases List.mem_append.1 hx with h2 | h2
  · exact two_byte _ (by omega) x h2
  · exact two_byte _ (by omega) x h2
theorem day_cat (y m d : Nat) : ((((strOfNums (four y) ++ (⟨#[47]⟩ : ByteArray)) ++ strOfNums (two m)) ++ (⟨#[47]⟩ : ByteArray)) ++ strOfNums (two d)) = strOfNums (dayT y m d) := by
  have e : (⟨#[47]⟩ : ByteArray) = strOfNums [47] := rfl
  rw [e, ← strOf_app, ← strOf_app, ← strOf_app, ← strOf_app]
  unfold dayT
  simp only [List.append_assoc, List.cons_append, List.nil_append]
theorem clock_cat (h i t : Nat) : ((((strOfNums (two h) ++ (⟨#[58]⟩ : ByteArray)) ++ strOfNums (two i)) ++ (⟨#[58]⟩ : ByteArray)) ++ strOfNums (two t)) = strOfNums (clock3 h i t) := by
  have e : (⟨#[58]⟩ : ByteArray) = strOfNums [58] := rfl
  rw [e, ← strOf_app, ← strOf_app, ← strOf_app, ← strOf_app]
  unfold clock3
  simp only [List.append_assoc, List.cons_append, List.nil_append]
theorem wt1 (D : Nat) (h : D + 1 < 100) : wrap64 ((D : Int) + 1) = ((D + 1 : Nat) : Int) := wrap_nat (by omega)
theorem wt2 (t : Nat) (ht : t < 86400) : wrap64 (Int.tdiv (t : Int) 3600) = ((t / 3600 : Nat) : Int) := by
  rw [td (by omega), wrap_in (by omega) (by omega)]
  omega
theorem wt3 (t : Nat) (ht : t < 86400) : Int.tmod (wrap64 (Int.tdiv (t : Int) 60)) 60 = ((t / 60 % 60 : Nat) : Int) := by
  rw [td (by omega), wrap_in (by omega) (by omega), tmod_nn (by omega)]
  omega
theorem wt4 (t : Nat) : Int.tmod (t : Int) 60 = ((t % 60 : Nat) : Int) := by
  rw [tmod_nn (by omega)]
  omega
set_option maxHeartbeats 4000000 in
theorem months_print (y : Nat) (hy0 : 1970 ≤ y) (hy : y ≤ 9999) (r : Int) (t : Nat) (ht : t < 86400) (ms : Nat) (hm1 : 1 ≤ ms) (hm : ms ≤ 12) (h1 : mst y (ms - 1) ≤ r) (h2 : r < mst y ms) (h366 : r < 366) : ∀ (d j : Nat), j + d = ms → 1 ≤ j →
    Ev (fun k => date_Print.l1 k (r - mst y (j - 1)) (t : Int) (y : Int) (j : Int)) (strOfNums (dayT y ms ((r - mst y (ms - 1)).toNat + 1)), strOfNums (clockT t), true) := by
  intro d
  induction d with
  | zero =>
    intro j hj hj1
    obtain rfl : j = ms := by omega
    have hl := long_f (y : Int) (j : Int) (by omega)
    have e : mst y j = mst y (j - 1) + longV y (j : Int) := by
      obtain ⟨i, rfl⟩ : ∃ i, j = i + 1 := ⟨j - 1, by omega⟩
      rfl
    have hlr := longV_range (y : Int) (j : Int)
    have hd : r - mst y (j - 1) = (((r - mst y (j - 1)).toNat : Nat) : Int) := by omega
    generalize hD : (r - mst y (j - 1)).toNat = D at *
    rw [hd]
    have z4 : (strOfNums (four y)).size = 4 := by rw [size_strOf]; rfl
    have z2 : ∀ n, (strOfNums (two n)).size = 2 := fun n => by rw [size_strOf]; rfl
    have a1 := z2 j
    have a2 := z2 (D + 1)
    have b1 : t / 3600 < 100 := by omega
    have b2 : t / 60 % 60 < 100 := by omega
    have b3 : t % 60 < 100 := by omega
    have eD : D + 1 < 100 := by omega
    have hj100 : j < 100 := by omega
    have hlt : (D : Int) < longV (y : Int) (j : Int) := by omega
    unfold clockT
    have a3 := z2 (t / 3600)
    have a4 := z2 (t / 60 % 60)
    have a5 := z2 (t % 60)
    clear hD hd e hlr h1 h2 h366 hm z2 hj
    refine Ev.step (f := ?qf0) ?qh0 ?qk0
    case qh0 =>
      intro k
      simp only [date_Print.l1]
      rfl
    refine Ev.bind (g := fun k => date_long.f k (y : Int) (j : Int)) hl ?_
    refine Ev.congr (f := ?qf1) ?qh1 ?qk1
    case qh1 =>
      intro k
      rw [if_neg (by omega)]
    refine Ev.bind (g := fun k => date_pad.f k (y : Int) 4) (pad4 y (by omega) (by omega)) ?_
    refine Ev.congr (f := ?qf2) ?qh2 ?qk2
    case qh2 =>
      intro k
      rw [if_pos (by omega)]
    refine Ev.bind (g := fun k => date_pad.f k (j : Int) 2) (pad2 j hj100) ?_
    refine Ev.congr (f := ?qf3) ?qh3 ?qk3
    case qh3 =>
      intro k
      rw [if_pos (by omega), if_pos (by omega), wt1 D eD]
    refine Ev.bind (g := fun k => date_pad.f k ((D + 1 : Nat) : Int) 2) (pad2 (D + 1) eD) ?_
    refine Ev.congr (f := ?qf4) ?qh4 ?qk4
    case qh4 =>
      intro k
      rw [if_pos (by omega), wt2 t ht]
    refine Ev.bind (g := fun k => date_pad.f k ((t / 3600 : Nat) : Int) 2) (pad2 (t / 3600) b1) ?_
    refine Ev.congr (f := ?qf5) ?qh5 ?qk5
    case qh5 =>
      intro k
      rw [if_pos (by omega), wt3 t ht]
    refine Ev.bind (g := fun k => date_pad.f k ((t / 60 % 60 : Nat) : Int) 2) (pad2 (t / 60 % 60) b2) ?_
    refine Ev.congr (f := ?qf6) ?qh6 ?qk6
    case qh6 =>
      intro k
      rw [if_pos (by omega), if_pos (by omega), wt4 t]
    refine Ev.bind (g := fun k => date_pad.f k ((t % 60 : Nat) : Int) 2) (pad2 (t % 60) b3) (Ev.congr (fun k => ?_) (Ev.now _))
    rw [if_pos (by omega), day_cat, clock_cat]
  | succ d ih =>
    intro j hj hj1
    have hl := long_f (y : Int) (j : Int) (by omega)
    have e : mst y j = mst y (j - 1) + longV y (j : Int) := by
      obtain ⟨i, rfl⟩ : ∃ i, j = i + 1 := ⟨j - 1, by omega⟩
      rfl
    have hmono := mst_mono y (ms - 1 - j) j
    have em : j + (ms - 1 - j) = ms - 1 := by omega
    rw [em] at hmono
    have hb := mst_bound y (j - 1) (by omega)
    have hlr := longV_range (y : Int) (j : Int)
    refine Ev.step (f := ?qf8) ?qh8 ?qk8
    case qh8 =>
      intro k
      simp only [date_Print.l1]
      rfl
    refine Ev.bind (g := fun k => date_long.f k (y : Int) (j : Int)) hl ?_
    refine Ev.congr (f := ?qf7) ?qh7 ?qk7
    case qh7 =>
      intro k
      rw [if_pos (by omega)]
    refine Ev.bind (g := fun k => date_long.f k (y : Int) (j : Int)) hl ?_
    refine Ev.congr (fun k => ?_) (ih (j + 1) (by omega) (by omega))
    have ew : wrap64 ((r - mst y (j - 1)) - longV y (j : Int)) = r - mst y (j + 1 - 1) := by
      rw [wrap_in (by omega) (by omega), Nat.add_sub_cancel, e]
      omega
    rw [ew, wrap_nat (by omega)]
theorem years_print (n : Int) (t : Nat) (ys : Nat) (hy : ys ≤ 9999) (h1 : Yr ys ≤ n) (h2 : n < Yr ((ys + 1 : Nat) : Int)) {R : ByteArray × ByteArray × Bool} (hR : Ev (fun k => date_Print.j1 k (n - Yr ys) (t : Int) (ys : Int)) R) : ∀ (d j : Nat), j + d = ys → 1970 ≤ j →
    Ev (fun k => date_Print.l0 k (n - Yr j) (t : Int) (j : Int)) R := by
  intro d
  induction d with
  | zero =>
    intro j hj hj0
    obtain rfl : j = ys := by omega
    refine Ev.step (fun k => ?_) hR
    have hs := Yr_succ (j : Int)
    have e : ((j + 1 : Nat) : Int) = (j : Int) + 1 := by omega
    rw [e] at h2
    simp only [date_Print.l0]
    rw [leap_f _ (by omega), Option.bind_some]
    by_cases hl : leapB (j : Int) = true
    · rw [if_pos hl] at hs ⊢
      rw [if_pos (by omega)]
    · rw [if_neg hl] at hs ⊢
      rw [if_pos (by omega)]
  | succ d ih =>
    intro j hj hj0
    have hs := Yr_succ (j : Int)
    have hm := Yr_mono (a := ((j + 1 : Nat) : Int)) (b := (ys : Int)) (by omega)
    have hb := Yr_bound j (by omega) hj0
    have hb2 := Yr_bound (ys + 1) (by omega) (by omega)
    have e : ((j + 1 : Nat) : Int) = (j : Int) + 1 := by omega
    rw [e] at hm
    refine Ev.step (fun k => ?_) (ih (j + 1) (by omega) (by omega))
    simp only [date_Print.l0]
    rw [leap_f _ (by omega), Option.bind_some]
    by_cases hl : leapB (j : Int) = true
    · rw [if_pos hl] at hs ⊢
      rw [if_neg (by omega), wrap_nat (by omega), wrap_in (by omega) (by omega), e, hs]
      congr 1
      omega
    · rw [if_neg hl] at hs ⊢
      rw [if_neg (by omega), wrap_nat (by omega), wrap_in (by omega) (by omega), e, hs]
      congr 1
      omega
/-- A second has its day and its clock. -/
theorem print (sec : Nat) (hs : sec ≤ 253402300799) : ∃ y m d : Nat, 1970 ≤ y ∧ y ≤ 9999 ∧ 1 ≤ m ∧ m ≤ 12 ∧ 1 ≤ d ∧ (d : Int) ≤ longV y m ∧ Yr y + mst y (m - 1) + ((d : Int) - 1) = ((sec / 86400 : Nat) : Int) ∧ Yr y ≤ ((sec / 86400 : Nat) : Int) ∧ ((sec / 86400 : Nat) : Int) < Yr ((y + 1 : Nat) : Int) ∧ mst y (m - 1) ≤ ((sec / 86400 : Nat) : Int) - Yr y ∧ ((sec / 86400 : Nat) : Int) - Yr y < mst y m ∧
    Ev (fun k => date_Print.f k (sec : Int)) (strOfNums (dayT y m d), strOfNums (clockT (sec % 86400)), true) := by
  have hY : ((sec / 86400 : Nat) : Int) < Yr ((1970 + 8030 : Nat) : Int) := by
    have : Yr ((1970 + 8030 : Nat) : Int) = 2932897 := by decide
    omega
  obtain ⟨y, y0, y1, y2, y3⟩ := year_of _ (by omega) 8030 hY
  have hsucc := Yr_succ (y : Int)
  have e1 : ((y + 1 : Nat) : Int) = (y : Int) + 1 := by omega
  have hr : ((sec / 86400 : Nat) : Int) - Yr y < mst y 12 := by rw [mst_12]; rw [e1] at y3; split at hsucc <;> split <;> first | omega | simp_all
  obtain ⟨m, m1, m2, m3, m4⟩ := month_of y _ (by omega) 12 hr
  have hb12 := mst_bound y 12 (by omega)
  have e2 : mst y m = mst y (m - 1) + longV y (m : Int) := by
    obtain ⟨i, rfl⟩ : ∃ i, m = i + 1 := ⟨m - 1, by omega⟩
    rfl
  refine ⟨y, m, (((sec / 86400 : Nat) : Int) - Yr y - mst y (m - 1)).toNat + 1, y0, by omega, m1, m2, by omega, by omega, by omega, y2, y3, m3, m4, ?_⟩
  have hmth := months_print y y0 (by omega) (((sec / 86400 : Nat) : Int) - Yr y) (sec % 86400) (by omega) m m1 m2 m3 m4 (by omega) (m - 1) 1 (by omega) (by omega)
  have e0 : ((sec / 86400 : Nat) : Int) - Yr y - mst y (1 - 1) = ((sec / 86400 : Nat) : Int) - Yr y := by show _ - 0 = _; omega
  rw [e0] at hmth
  have hyr := years_print ((sec / 86400 : Nat) : Int) (sec % 86400) y (by omega) y2 y3 (Ev.step (fun k => by simp only [date_Print.j1]; rfl) hmth) (y - 1970) 1970 (by omega) (by omega)
  refine Ev.congr (fun k => ?_) hyr
  unfold date_Print.f
  rw [if_neg (by omega), td (by omega), tmod_nn (by omega), uw _ (by omega) (by omega), wrap_in (x := (sec : Int) / 86400) (by omega) (by omega), wrap_in (x := (sec : Int) % 86400) (by omega) (by omega)]
  have e3 : (sec : Int) / 86400 = ((sec / 86400 : Nat) : Int) - Yr ((1970 : Nat) : Int) := by
    have : Yr ((1970 : Nat) : Int) = 0 := Yr_0
    omega
  have e4 : (sec : Int) % 86400 = ((sec % 86400 : Nat) : Int) := by omega
  rw [e3, e4]
  rfl
end Go.Proofs.YtcgchblljhbdaaaDoor.DateS
