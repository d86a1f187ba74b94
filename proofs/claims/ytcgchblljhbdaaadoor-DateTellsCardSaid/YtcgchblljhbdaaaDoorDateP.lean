/- A day's text and a clock's are read as the second they are; which text comes first. -/
import Derived.Test.YtcgchblljhbdaaaDoorDateS
namespace Go.Proofs.YtcgchblljhbdaaaDoor.DateS
open Go Go.RowKit Go.Proofs.YtcgchblljhbdaaaDoorW.PrintWords Go.Proofs.YtcgchblljhbdaaaDoorW.PrintMore Go.Proofs.YtcgchblljhbdaaaDoor.PL Go.Proofs.YtcgchblljhbdaaaDoor.PB Go.Proofs.YtcgchblljhbdaaaDoor.NumS Go.Proofs.YtcgchblljhbdaaaDoor.Z
set_option linter.unusedSimpArgs false
set_option linter.unusedVariables false
theorem digits_run (b : List Int) (hb : b.length < 1000) : ∀ (l : List Int) (n : Nat) (acc : Int), b.drop n = l → n ≤ b.length → l.all isD = true → 0 ≤ acc → valL acc l ≤ 1000000 →
    Ev (fun k => date_digits.l0 k acc b (b.length : Int) (n : Int)) (valL acc l, true) := by
  intro l
  induction l with
  | nil =>
    intro n acc h hn hD h0 hv
    have := dn h hn
    refine Ev.step (f := fun _ => some _) (fun k => ?_) (Ev.now _)
    simp only [date_digits.l0]
    rw [if_neg (by omega)]
    rfl
  | cons c l ih =>
    intro n acc h hn hD h0 hv
    obtain ⟨g1, g2, g3, g4⟩ := dc h
    rw [List.all_cons, Bool.and_eq_true, isD_iff] at hD
    have hge := valL_ge l (10 * acc + (c - 48)) hD.2 (by omega)
    have hv2 : valL (10 * acc + (c - 48)) l ≤ 1000000 := hv
    have hm : (c - 48) % 256 = c - 48 := by omega
    refine Ev.step (f := fun k => date_digits.l0 k (10 * acc + (c - 48)) b (b.length : Int) ((n + 1 : Nat) : Int)) (fun k => ?_) (ih (n + 1) _ g3 (by omega) hD.2 (by omega) hv2)
    simp only [date_digits.l0]
    rw [if_pos (by omega), if_pos (by omega), if_pos (by omega), g2, if_neg (by omega), if_neg (by omega), hm, wrap_in (x := 10 * acc) (by omega) (by omega), wrap_in (by omega) (by omega), wrap_nat (by omega)]
theorem digits_f (s : ByteArray) (a n : Nat) (l : List Int) (hs : s.size < 1000) (ha : a + n ≤ s.size) (hl : ((bytesOf s).take (a + n)).drop a = l) (hD : l.all isD = true) (hv : valL 0 l ≤ 1000000) (A N : Int) (hA : A = (a : Int)) (hN : N = (n : Int)) : Ev (fun k => date_digits.f k s A N) (valL 0 l, true) := by
  subst hA hN
  have hb : bytesOf (s.extract a (a + n)) = l := by rw [bytesOf_extract, hl]
  have hll : l.length ≤ s.size := by rw [← hl, List.length_drop, List.length_take, len_bytes]; omega
  have hr := digits_run l (by omega) l 0 0 rfl (Nat.zero_le _) hD (by omega) hv
  have hsz : (s.extract a (a + n)).size = l.length := by rw [← hb, len_bytes]
  refine Ev.congr (fun k => ?_) hr
  unfold date_digits.f
  rw [wrap_nn a n (by omega), if_pos (by omega), if_pos (by omega), if_pos (by omega)]
  have e1 : ((a : Int)).toNat = a := by omega
  have e2 : (((a + n : Nat) : Int)).toNat = a + n := by omega
  rw [e1, e2, if_pos (by omega), Option.bind_some, hb]
  rfl
theorem valL_two (n : Nat) : valL 0 (two n) = (n : Int) := by
  show 10 * (10 * 0 + (48 + ((n / 10 : Nat) : Int) - 48)) + (48 + ((n % 10 : Nat) : Int) - 48) = _
  omega
theorem valL_four (n : Nat) : valL 0 (four n) = (n : Int) := by
  unfold four
  rw [valL_app, valL_two]
  show 10 * (10 * ((n / 100 : Nat) : Int) + (48 + ((n % 100 / 10 : Nat) : Int) - 48)) + (48 + ((n % 100 % 10 : Nat) : Int) - 48) = _
  omega
theorem two_D (n : Nat) (h : n < 100) : (two n).all isD = true := List.all_eq_true.2 (fun x hx => (isD_iff x).2 (two_byte n h x hx))
theorem four_D (n : Nat) (h : n < 10000) : (four n).all isD = true := List.all_eq_true.2 (fun x hx => (isD_iff x).2 (four_byte n h x hx))
theorem day_byte (y m d : Nat) (hy : y < 10000) (hm : m < 100) (hd : d < 100) : ∀ x ∈ dayT y m d, 0 ≤ x ∧ x < 256 := by
  intro x hx
  unfold dayT at hx
  have : x ∈ four y ∨ x = 47 ∨ x ∈ two m ∨ x = 47 ∨ x ∈ two d := by simpa using hx
  rcases this with h | h | h | h | h
  · have := four_byte y hy x h; omega
  · omega
  · have := two_byte m hm x h; omega
  · omega
  · have := two_byte d hd x h; omega
theorem clock_byte (h i s : Nat) (hh : h < 100) (hi : i < 100) (hs : s < 100) : ∀ x ∈ clock3 h i s, 0 ≤ x ∧ x < 256 := by
  intro x hx
  unfold clock3 at hx
  have : x ∈ two h ∨ x = 58 ∨ x ∈ two i ∨ x = 58 ∨ x ∈ two s := by simpa using hx
  rcases this with g | g | g | g | g
  · have := two_byte h hh x g; omega
  · omega
  · have := two_byte i hi x g; omega
  · omega
  · have := two_byte s hs x g; omega
theorem three_day (y m d : Nat) (hy : y < 10000) (hm : m < 100) (hd : d < 100) : Ev (fun k => date_three.f k (strOfNums (dayT y m d)) 47 4) ((y : Int), (m : Int), (d : Int), true) := by
  have hB := day_byte y m d hy hm hd
  have hb := bytesOf_strOf _ hB
  have hz : (strOfNums (dayT y m d)).size = 10 := by rw [size_strOf]; rfl
  generalize hs : strOfNums (dayT y m d) = s at *
  have r4 : bt s 4 = 47 := by
    have := bt_rd s 4
    rw [hb] at this
    exact this
  have r7 : bt s 7 = 47 := by
    have := bt_rd s 7
    rw [hb] at this
    exact this
  have q1 := digits_f s 0 4 (four y) (by omega) (by omega) (by rw [hb]; rfl) (four_D y hy) (by rw [valL_four]; omega) 0 4 rfl rfl
  have q2 := digits_f s 5 2 (two m) (by omega) (by omega) (by rw [hb]; rfl) (two_D m hm) (by rw [valL_two]; omega) (wrap64 (4 + 1)) 2 (by unfold wrap64; decide) rfl
  have q3 := digits_f s 8 2 (two d) (by omega) (by omega) (by rw [hb]; rfl) (two_D d hd) (by rw [valL_two]; omega) (wrap64 (4 + 4)) 2 (by unfold wrap64; decide) rfl
  rw [valL_four] at q1
  rw [valL_two] at q2 q3
  refine Ev.congr (f := fun k => date_three.j0 k s 4 false) (fun k => ?_) ?_
  · have w1 : wrap64 (4 + 6) = 10 := by unfold wrap64; decide
    have w2 : wrap64 (4 + 3) = 7 := by unfold wrap64; decide
    unfold date_three.f
    rw [w1, w2, if_pos (by omega), if_pos (by omega), if_pos (by omega), if_pos r4, if_pos (by omega), if_pos (by omega), r7]
    rfl
  refine Ev.step (f := ?qf0) ?qh0 ?qk0
  case qh0 =>
    intro k
    simp only [date_three.j0]
    rw [if_neg (by simp)]
  refine Ev.bind (g := fun k => date_digits.f k s 0 4) q1 (Ev.bind (g := fun k => date_digits.f k s (wrap64 (4 + 1)) 2) q2 (Ev.bind (g := fun k => date_digits.f k s (wrap64 (4 + 4)) 2) q3 (Ev.congr (fun k => ?_) (Ev.now _))))
  rw [if_pos rfl, if_pos rfl]
theorem three_clock (h i d : Nat) (hh : h < 100) (hi : i < 100) (hd : d < 100) : Ev (fun k => date_three.f k (strOfNums (clock3 h i d)) 58 2) ((h : Int), (i : Int), (d : Int), true) := by
  have hB := clock_byte h i d hh hi hd
  have hb := bytesOf_strOf _ hB
  have hz : (strOfNums (clock3 h i d)).size = 8 := by rw [size_strOf]; rfl
  generalize hs : strOfNums (clock3 h i d) = s at *
  have r4 : bt s 2 = 58 := by
    have := bt_rd s 2
    rw [hb] at this
    exact this
  have r7 : bt s 5 = 58 := by
    have := bt_rd s 5
    rw [hb] at this
    exact this
  have q1 := digits_f s 0 2 (two h) (by omega) (by omega) (by rw [hb]; rfl) (two_D h hh) (by rw [valL_two]; omega) 0 2 rfl rfl
  have q2 := digits_f s 3 2 (two i) (by omega) (by omega) (by rw [hb]; rfl) (two_D i hi) (by rw [valL_two]; omega) (wrap64 (2 + 1)) 2 (by unfold wrap64; decide) rfl
  have q3 := digits_f s 6 2 (two d) (by omega) (by omega) (by rw [hb]; rfl) (two_D d hd) (by rw [valL_two]; omega) (wrap64 (2 + 4)) 2 (by unfold wrap64; decide) rfl
  rw [valL_two] at q1 q2 q3
  refine Ev.congr (f := fun k => date_three.j0 k s 2 false) (fun k => ?_) ?_
  · have w1 : wrap64 (2 + 6) = 8 := by unfold wrap64; decide
    have w2 : wrap64 (2 + 3) = 5 := by unfold wrap64; decide
    unfold date_three.f
    rw [w1, w2, if_pos (by omega), if_pos (by omega), if_pos (by omega), if_pos r4, if_pos (by omega), if_pos (by omega), r7]
    rfl
  refine Ev.step (f := ?qf0) ?qh0 ?qk0
  case qh0 =>
    intro k
    simp only [date_three.j0]
    rw [if_neg (by simp)]
  refine Ev.bind (g := fun k => date_digits.f k s 0 2) q1 (Ev.bind (g := fun k => date_digits.f k s (wrap64 (2 + 1)) 2) q2 (Ev.bind (g := fun k => date_digits.f k s (wrap64 (2 + 4)) 2) q3 (Ev.congr (fun k => ?_) (Ev.now _))))
  rw [if_pos rfl, if_pos rfl]
theorem ahead_run (Y : Nat) (hY : Y ≤ 10000) : ∀ (d j : Nat), j + d = Y → 1970 ≤ j → Ev (fun k => date_ahead.l0 k (Y : Int) (Yr j) (j : Int)) (Yr Y) := by
  intro d
  induction d with
  | zero =>
    intro j hj h0
    obtain rfl : j = Y := by omega
    refine Ev.step (f := fun _ => some _) (fun k => ?_) (Ev.now _)
    simp only [date_ahead.l0]
    rw [if_neg (by omega)]
  | succ d ih =>
    intro j hj h0
    have hs := Yr_succ (j : Int)
    have hb := Yr_bound j (by omega) h0
    have e : ((j + 1 : Nat) : Int) = (j : Int) + 1 := by omega
    refine Ev.step (fun k => ?_) (ih (j + 1) (by omega) (by omega))
    simp only [date_ahead.l0]
    rw [if_pos (by omega), leap_f _ (by omega), Option.bind_some, wrap_in (x := Yr j + 365) (by omega) (by omega), wrap_nat (by omega), e, hs]
    by_cases hl : leapB (j : Int) = true
    · rw [if_pos hl, if_pos hl, wrap_in (by omega) (by omega)]
      congr 1
      omega
    · rw [if_neg hl, if_neg hl]
theorem ahead_f (Y : Nat) (h0 : 1970 ≤ Y) (hY : Y ≤ 10000) : Ev (fun k => date_ahead.f k (Y : Int)) (Yr Y) := by
  have h := ahead_run Y hY (Y - 1970) 1970 (by omega) (by omega)
  have e : Yr ((1970 : Nat) : Int) = 0 := Yr_0
  rw [e] at h
  exact h
def secOf (base : Int) (h i s : Nat) : Int := base * 86400 + (h : Int) * 3600 + (i : Int) * 60 + (s : Int)
theorem months_run (y : Nat) (m : Nat) (hm : m ≤ 12) (h i s : Nat) (hh : h < 24) (hi : i < 60) (hs : s < 60) (base : Int) (b0 : 0 ≤ base) (b1 : base ≤ 4000000) : ∀ (d j : Nat), j + d = m → 1 ≤ j →
    Ev (fun k => date_Parse.l0 k (y : Int) (m : Int) (h : Int) (i : Int) (s : Int) (base + mst y (j - 1)) (j : Int)) (secOf (base + mst y (m - 1)) h i s, true) := by
  intro d
  induction d with
  | zero =>
    intro j hj hj1
    obtain rfl : j = m := by omega
    have hb := mst_bound y (j - 1) (by omega)
    refine Ev.step (f := fun _ => some _) (fun k => ?_) (Ev.now _)
    simp only [date_Parse.l0]
    rw [if_neg (by omega)]
    unfold secOf
    rw [wrap_in (x := (base + mst y (j - 1)) * 86400) (by omega) (by omega), wrap_in (x := (h : Int) * 3600) (by omega) (by omega), wrap_in (x := (base + mst y (j - 1)) * 86400 + (h : Int) * 3600) (by omega) (by omega), wrap_in (x := (i : Int) * 60) (by omega) (by omega), wrap_in (x := (base + mst y (j - 1)) * 86400 + (h : Int) * 3600 + (i : Int) * 60) (by omega) (by omega), wrap_in (by omega) (by omega), uw _ (by omega) (by omega)]
  | succ d ih =>
    intro j hj hj1
    have hb := mst_bound y (j - 1) (by omega)
    have hlr := longV_range (y : Int) (j : Int)
    have e : mst y (j + 1 - 1) = mst y (j - 1) + longV y (j : Int) := by
      obtain ⟨q, rfl⟩ : ∃ q, j = q + 1 := ⟨j - 1, by omega⟩
      rfl
    refine Ev.step (f := ?qf0) ?qh0 ?qk0
    case qh0 =>
      intro k
      simp only [date_Parse.l0]
      rw [if_pos (by omega)]
    refine Ev.bind (g := fun k => date_long.f k (y : Int) (j : Int)) (long_f (y : Int) (j : Int) (by omega)) (Ev.congr (fun k => ?_) (ih (j + 1) (by omega) (by omega)))
    rw [wrap_nat (by omega), wrap_in (by omega) (by omega), e, Int.add_assoc]
theorem parse (y m d h i s : Nat) (y0 : 1970 ≤ y) (y1 : y ≤ 9999) (m0 : 1 ≤ m) (m1 : m ≤ 12) (d0 : 1 ≤ d) (d1 : (d : Int) ≤ longV y m) (hh : h < 24) (hi : i < 60) (hs : s < 60) :
    Ev (fun k => date_Parse.f k (strOfNums (dayT y m d)) (strOfNums (clock3 h i s))) (secOf (Yr y + ((d : Int) - 1) + mst y (m - 1)) h i s, true) := by
  have hlr := longV_range (y : Int) (m : Int)
  have hyb := Yr_bound y (by omega) y0
  have hl := long_f (y : Int) (m : Int) (by omega)
  refine Ev.bind (g := fun k => date_three.f k (strOfNums (dayT y m d)) 47 4) (three_day y m d (by omega) (by omega) (by omega)) (Ev.bind (g := fun k => date_three.f k (strOfNums (clock3 h i s)) 58 2) (three_clock h i s (by omega) (by omega) (by omega)) ?_)
  refine Ev.congr (f := ?qf0) ?qh0 ?qk0
  case qh0 =>
    intro k
    rw [if_pos rfl, if_pos rfl, if_neg (by show ¬ ((y : Int) < 1970); omega), if_neg (by show ¬ ((m : Int) < 1); omega), if_neg (by show ¬ ((m : Int) > 12); omega), if_neg (by show ¬ ((d : Int) < 1); omega)]
  refine Ev.bind (g := fun k => date_long.f k (y : Int) (m : Int)) hl ?_
  have hm := months_run y m m1 h i s hh hi hs (Yr y + ((d : Int) - 1)) (by omega) (by omega) (m - 1) 1 (by omega) (by omega)
  have e0 : Yr y + ((d : Int) - 1) + mst y (1 - 1) = Yr y + ((d : Int) - 1) := by show _ + 0 = _; omega
  rw [e0] at hm
  refine Ev.congr (f := fun k => date_Parse.j0 k (y : Int) (m : Int) (d : Int) (h : Int) (i : Int) (s : Int) false) (fun k => ?_) (Ev.step (f := fun k => (date_ahead.f k (y : Int)).bind fun t122 => (date_Parse.l0 k (y : Int) (m : Int) (h : Int) (i : Int) (s : Int) (wrap64 ((wrap64 (t122 + (d : Int))) - 1)) 1)) (fun k => ?_) (Ev.bind (g := fun k => date_ahead.f k (y : Int)) (ahead_f y y0 (by omega)) (Ev.congr (fun k => ?_) hm)))
  · rw [if_neg (by show ¬ ((d : Int) > longV y m); omega), if_neg (by show ¬ ((h : Int) > 23); omega), if_neg (by show ¬ ((i : Int) > 59); omega)]
    have : decide ((s : Int) > 59) = false := decide_eq_false (by omega)
    show date_Parse.j0 k (y : Int) (m : Int) (d : Int) (h : Int) (i : Int) (s : Int) (decide ((s : Int) > 59)) = _
    rw [this]
  · simp only [date_Parse.j0]
    rw [if_neg (by simp)]
  · rw [wrap_in (x := Yr y + (d : Int)) (by omega) (by omega), wrap_in (by omega) (by omega)]
    have e : Yr y + (d : Int) - 1 = Yr y + ((d : Int) - 1) := by omega
    rw [e]
    rfl
/-! ### which text comes first -/
theorem less_cons (a b : UInt8) (x y : List UInt8) : Op.bytesLess (a :: x) (b :: y) = (decide (a < b) || (a == b && Op.bytesLess x y)) := rfl
theorem less_app : ∀ (p x y : List UInt8), Op.bytesLess (p ++ x) (p ++ y) = Op.bytesLess x y := by
  intro p
  induction p with
  | nil => intro x y; rfl
  | cons a p ih =>
    intro x y
    have h1 : decide (a < a) = false := decide_eq_false (UInt8.lt_irrefl a)
    rw [List.cons_append, List.cons_append, less_cons, ih, h1]
    simp
theorem less_not : ∀ (x y : List UInt8), Op.bytesLess x y = true → Op.bytesLess y x = false ∧ x ≠ y := by
  intro x
  induction x with
  | nil =>
    intro y h
    cases y with
    | nil => simp [Op.bytesLess] at h
    | cons b y => exact ⟨rfl, by simp⟩
  | cons a x ih =>
    intro y h
    cases y with
    | nil => simp [Op.bytesLess] at h
    | cons b y =>
      rw [less_cons, Bool.or_eq_true, Bool.and_eq_true] at h
      rcases h with h | ⟨h1, h2⟩
      · have hlt : a < b := of_decide_eq_true h
        have hnl : ¬ b < a := fun z => UInt8.lt_irrefl a (UInt8.lt_trans hlt z)
        have hne : a ≠ b := fun e => by subst e; exact UInt8.lt_irrefl a hlt
        refine ⟨?_, fun e => hne (by injection e)⟩
        rw [less_cons, decide_eq_false hnl]
        have : (b == a) = false := by simpa using fun e : b = a => hne e.symm
        rw [this]
        rfl
      · have e : a = b := by simpa using h1
        subst e
        obtain ⟨g1, g2⟩ := ih y h2
        refine ⟨?_, fun e => g2 (by injection e)⟩
        rw [less_cons, decide_eq_false (UInt8.lt_irrefl a), g1]
        simp
theorem lib_app (a b : List Int) : Lib.bytesOf (a ++ b) = Lib.bytesOf a ++ Lib.bytesOf b := by unfold Lib.bytesOf; rw [List.map_append]
theorem d_lt {a b : Nat} (h : a < b) (hb : b < 10) : UInt8.ofNat (48 + (a : Int)).toNat < UInt8.ofNat (48 + (b : Int)).toNat := by
  rw [UInt8.lt_iff_toNat_lt, UInt8.toNat_ofNat', UInt8.toNat_ofNat']
  omega
theorem less_two (a b : Nat) (h : a < b) (hb : b < 100) (x y : List UInt8) : Op.bytesLess (Lib.bytesOf (two a) ++ x) (Lib.bytesOf (two b) ++ y) = true := by
  show Op.bytesLess (UInt8.ofNat (48 + ((a / 10 : Nat) : Int)).toNat :: UInt8.ofNat (48 + ((a % 10 : Nat) : Int)).toNat :: x) (UInt8.ofNat (48 + ((b / 10 : Nat) : Int)).toNat :: UInt8.ofNat (48 + ((b % 10 : Nat) : Int)).toNat :: y) = true
  by_cases h1 : a / 10 < b / 10
  · rw [less_cons, decide_eq_true (d_lt h1 (by omega))]
    rfl
  · have e : a / 10 = b / 10 := by omega
    have h2 : a % 10 < b % 10 := by omega
    rw [e, less_cons, less_cons, decide_eq_true (d_lt h2 (by omega))]
    simp
theorem less_four (a b : Nat) (h : a < b) (hb : b < 10000) (x y : List UInt8) : Op.bytesLess (Lib.bytesOf (four a) ++ x) (Lib.bytesOf (four b) ++ y) = true := by
  unfold four
  rw [lib_app, lib_app, List.append_assoc, List.append_assoc]
  by_cases h1 : a / 100 < b / 100
  · exact less_two _ _ h1 (by omega) _ _
  · have e : a / 100 = b / 100 := by omega
    rw [e, less_app]
    exact less_two _ _ (by omega) (by omega) _ _
theorem cons_lib (c : Int) (l : List Int) : Lib.bytesOf (c :: l) = Lib.bytesOf [c] ++ Lib.bytesOf l := rfl
theorem day_less (y m d y' m' d' : Nat) (hy : y' < 10000) (hm : m' < 100) (hd : d' < 100) (h : y < y' ∨ y = y' ∧ (m < m' ∨ m = m' ∧ d < d')) : Op.bytesLess (strOfNums (dayT y m d)).toList (strOfNums (dayT y' m' d')).toList = true := by
  rw [Lib.strOfNums_toList, Lib.strOfNums_toList]
  unfold dayT
  rw [lib_app, lib_app]
  rcases h with h | ⟨rfl, h⟩
  · exact less_four _ _ h hy _ _
  · rw [less_app, cons_lib, cons_lib 47 (two m' ++ _), less_app, lib_app, lib_app]
    rcases h with h | ⟨rfl, h⟩
    · exact less_two _ _ h hm _ _
    · rw [less_app, cons_lib, cons_lib 47 (two d'), less_app]
      have := less_two d d' h hd [] []
      simpa using this
theorem clock_less (h i s h' i' s' : Nat) (hh : h' < 100) (hi : i' < 100) (hs : s' < 100) (g : h < h' ∨ h = h' ∧ (i < i' ∨ i = i' ∧ s < s')) : Op.bytesLess (strOfNums (clock3 h i s)).toList (strOfNums (clock3 h' i' s')).toList = true := by
  rw [Lib.strOfNums_toList, Lib.strOfNums_toList]
  unfold clock3
  rw [lib_app, lib_app]
  rcases g with g | ⟨rfl, g⟩
  · exact less_two _ _ g hh _ _
  · rw [less_app, cons_lib, cons_lib 58 (two i' ++ _), less_app, lib_app, lib_app]
    rcases g with g | ⟨rfl, g⟩
    · exact less_two _ _ g hi _ _
    · rw [less_app, cons_lib, cons_lib 58 (two s'), less_app]
      have := less_two s s' g hs [] []
      simpa using this
end Go.Proofs.YtcgchblljhbdaaaDoor.DateS
