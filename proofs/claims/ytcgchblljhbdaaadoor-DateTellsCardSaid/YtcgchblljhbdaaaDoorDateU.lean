/- Any texts are the same second to both, or none. -/
import Derived.Test.YtcgchblljhbdaaaDoorZx7
import Derived.Test.YtcgchblljhbdaaaDoorDateR
namespace Go.Proofs.YtcgchblljhbdaaaDoor.DateS
open Go Go.RowKit Go.Proofs.YtcgchblljhbdaaaDoorW.PrintWords Go.Proofs.YtcgchblljhbdaaaDoorW.PrintMore Go.Proofs.YtcgchblljhbdaaaDoor.PL Go.Proofs.YtcgchblljhbdaaaDoor.PB Go.Proofs.YtcgchblljhbdaaaDoor.NumS Go.Proofs.YtcgchblljhbdaaaDoor.Z
set_option linter.unusedSimpArgs false
set_option linter.unusedVariables false
def mx (n : Int) : List Int → Int
  | [] => n
  | _ :: l => mx (10 * n + 9) l
theorem mx_mono : ∀ (l : List Int) (a b : Int), a ≤ b → mx a l ≤ mx b l := by
  intro l
  induction l with
  | nil => intro a b h; exact h
  | cons c l ih => intro a b h; exact ih _ _ (by omega)
theorem mx_ge : ∀ (l : List Int) (a : Int), 0 ≤ a → a ≤ mx a l := by
  intro l
  induction l with
  | nil => intro a h; exact Int.le_refl _
  | cons c l ih =>
    intro a h
    have := ih (10 * a + 9) (by omega)
    show a ≤ mx (10 * a + 9) l
    omega
theorem mx_len (l : List Int) (h : l.length ≤ 4) : mx 0 l ≤ 9999 := by
  match l, h with
  | [], _ => simp only [mx]; omega
  | [_], _ => simp only [mx]; omega
  | [_, _], _ => simp only [mx]; omega
  | [_, _, _], _ => simp only [mx]; omega
  | [_, _, _, _], _ => simp only [mx]; omega
  | _ :: _ :: _ :: _ :: _ :: _, h => simp at h
theorem val_mx : ∀ (l : List Int) (a : Int), l.all isD = true → 0 ≤ a → 0 ≤ valL a l ∧ valL a l ≤ mx a l := by
  intro l
  induction l with
  | nil => intro a _ h; exact ⟨h, Int.le_refl _⟩
  | cons c l ih =>
    intro a hD h
    rw [List.all_cons, Bool.and_eq_true, isD_iff] at hD
    have := ih (10 * a + (c - 48)) hD.2 (by omega)
    have h2 := mx_mono l (10 * a + (c - 48)) (10 * a + 9) (by omega)
    show 0 ≤ valL (10 * a + (c - 48)) l ∧ valL (10 * a + (c - 48)) l ≤ mx (10 * a + 9) l
    omega
def ds (a : Int) (l : List Int) : Int × Bool := if l.all isD = true then (valL a l, true) else (0, false)
def dv (a : Int) (l : List Int) : Int := if l.all isD = true then valL a l else -1
theorem dany_run (b : List Int) (hb : b.length < 1000) : ∀ (l : List Int) (n : Nat) (acc : Int), b.drop n = l → n ≤ b.length → 0 ≤ acc → mx acc l ≤ 1000000 →
    Ev (fun k => date_digits.l0 k acc b (b.length : Int) (n : Int)) (ds acc l) := by
  intro l
  induction l with
  | nil =>
    intro n acc h hn h0 hm
    have := dn h hn
    refine Ev.step (f := fun _ => some _) (fun k => ?_) (Ev.now _)
    simp only [date_digits.l0]
    rw [if_neg (by omega)]
    rfl
  | cons c l ih =>
    intro n acc h hn h0 hm
    obtain ⟨g1, g2, g3, g4⟩ := dc h
    have hm2 : mx (10 * acc + 9) l ≤ 1000000 := hm
    have hge := mx_ge l (10 * acc + 9) (by omega)
    by_cases c1 : c < 48
    · have : ds acc (c :: l) = (0, false) := by
        unfold ds
        rw [if_neg]
        intro h2
        rw [List.all_cons, Bool.and_eq_true, isD_iff] at h2
        omega
      rw [this]
      refine Ev.step (f := fun _ => some _) (fun k => ?_) (Ev.now _)
      simp only [date_digits.l0]
      rw [if_pos (by omega), if_pos (by omega), if_pos (by omega), g2, if_pos c1]
    · by_cases c2 : c > 57
      · have : ds acc (c :: l) = (0, false) := by
          unfold ds
          rw [if_neg]
          intro h2
          rw [List.all_cons, Bool.and_eq_true, isD_iff] at h2
          omega
        rw [this]
        refine Ev.step (f := fun _ => some _) (fun k => ?_) (Ev.now _)
        simp only [date_digits.l0]
        rw [if_pos (by omega), if_pos (by omega), if_pos (by omega), g2, if_neg c1, if_pos c2]
      · have hD : isD c = true := (isD_iff c).2 ⟨by omega, by omega⟩
        have hmo := mx_mono l (10 * acc + (c - 48)) (10 * acc + 9) (by omega)
        have e : ds acc (c :: l) = ds (10 * acc + (c - 48)) l := by
          unfold ds
          rw [List.all_cons, hD, Bool.true_and]
          rfl
        rw [e]
        have hm3 : (c - 48) % 256 = c - 48 := by omega
        refine Ev.step (fun k => ?_) (ih (n + 1) (10 * acc + (c - 48)) g3 (by omega) (by omega) (by omega))
        simp only [date_digits.l0]
        rw [if_pos (by omega), if_pos (by omega), if_pos (by omega), g2, if_neg c1, if_neg c2, hm3, wrap_in (x := 10 * acc) (by omega) (by omega), wrap_in (by omega) (by omega), wrap_nat (by omega)]
theorem dany (s : ByteArray) (a n : Nat) (l : List Int) (hs : s.size < 1000) (ha : a + n ≤ s.size) (hl : ((bytesOf s).take (a + n)).drop a = l) (h4 : l.length ≤ 4) (A N : Int) (hA : A = (a : Int)) (hN : N = (n : Int)) : Ev (fun k => date_digits.f k s A N) (ds 0 l) := by
  subst hA hN
  have hb : bytesOf (s.extract a (a + n)) = l := by rw [bytesOf_extract, hl]
  have hr := dany_run l (by omega) l 0 0 rfl (Nat.zero_le _) (by omega) (by have := mx_len l h4; omega)
  have hsz : (s.extract a (a + n)).size = l.length := by rw [← hb, len_bytes]
  refine Ev.congr (fun k => ?_) hr
  unfold date_digits.f
  rw [wrap_nn a n (by omega), if_pos (by omega), if_pos (by omega), if_pos (by omega)]
  have e1 : ((a : Int)).toNat = a := by omega
  have e2 : (((a + n : Nat) : Int)).toNat = a + n := by omega
  rw [e1, e2, if_pos (by omega), Option.bind_some, hb]
  rfl
theorem rdany_run (s : ByteArray) (hs : s.size < 1000) : ∀ (l : List Int) (n : Nat) (acc : Int), (bytesOf s).drop n = l → n ≤ s.size → 0 ≤ acc → mx acc l ≤ 1000000 →
    Ev (fun k => gleberef1_digits.l0 k s (s.size : Int) acc (n : Int)) (dv acc l) := by
  have hL := len_bytes s
  intro l
  induction l with
  | nil =>
    intro n acc h hn h0 hm
    have := dn h (by omega)
    refine Ev.step (f := fun _ => some _) (fun k => ?_) (Ev.now _)
    simp only [gleberef1_digits.l0]
    rw [if_neg (by omega)]
    rfl
  | cons c l ih =>
    intro n acc h hn h0 hm
    obtain ⟨g1, g2, g3, g4⟩ := dc h
    have hbt : bt s (n : Int) = c := by rw [bt_rd, g2]
    have hm2 : mx (10 * acc + 9) l ≤ 1000000 := hm
    have hge := mx_ge l (10 * acc + 9) (by omega)
    by_cases c1 : c < 48
    · have : dv acc (c :: l) = -1 := by
        unfold dv
        rw [if_neg]
        intro h2
        rw [List.all_cons, Bool.and_eq_true, isD_iff] at h2
        omega
      rw [this]
      refine Ev.step (f := fun _ => some _) (fun k => ?_) (Ev.now _)
      simp only [gleberef1_digits.l0]
      rw [if_pos (by omega), if_pos (by omega), if_pos (by omega), hbt, if_pos c1]
    · by_cases c2 : c > 57
      · have : dv acc (c :: l) = -1 := by
          unfold dv
          rw [if_neg]
          intro h2
          rw [List.all_cons, Bool.and_eq_true, isD_iff] at h2
          omega
        rw [this]
        refine Ev.step (f := fun _ => some _) (fun k => ?_) (Ev.now _)
        simp only [gleberef1_digits.l0]
        rw [if_pos (by omega), if_pos (by omega), if_pos (by omega), hbt, if_neg c1, if_pos c2]
      · have hD : isD c = true := (isD_iff c).2 ⟨by omega, by omega⟩
        have hmo := mx_mono l (10 * acc + (c - 48)) (10 * acc + 9) (by omega)
        have e : dv acc (c :: l) = dv (10 * acc + (c - 48)) l := by
          unfold dv
          rw [List.all_cons, hD, Bool.true_and]
          rfl
        rw [e]
        have hm3 : (c - 48) % 256 = c - 48 := by omega
        refine Ev.step (fun k => ?_) (ih (n + 1) (10 * acc + (c - 48)) g3 (by omega) (by omega) (by omega))
        simp only [gleberef1_digits.l0]
        rw [if_pos (by omega), if_pos (by omega), if_pos (by omega), hbt, if_neg c1, if_neg c2, hm3, wrap_in (x := 10 * acc) (by omega) (by omega), wrap_in (by omega) (by omega), wrap_nat (by omega)]
theorem rdany (s : ByteArray) (l : List Int) (hl : bytesOf s = l) (h4 : l.length ≤ 4) (N : Int) (hN : N = (l.length : Int)) : Ev (fun k => gleberef1_digits.f k s N) (dv 0 l) := by
  subst hN
  have hsz : s.size = l.length := by rw [← hl, len_bytes]
  have hr := rdany_run s (by omega) l 0 0 (by rw [hl]; rfl) (Nat.zero_le _) (by omega) (by have := mx_len l h4; omega)
  rw [hsz] at hr
  refine Ev.congr (fun k => ?_) hr
  unfold gleberef1_digits.f
  rw [if_pos (by omega)]
  rfl
/-! ### three numbers -/
def sepOk (b : List Int) (c : Int) (f : Nat) : Prop := b.length = f + 6 ∧ rd b (f : Int) = c ∧ rd b ((f + 3 : Nat) : Int) = c
instance (b : List Int) (c : Int) (f : Nat) : Decidable (sepOk b c f) := by unfold sepOk; exact inferInstance
def p1 (b : List Int) (f : Nat) : List Int := b.take f
def p2 (b : List Int) (f : Nat) : List Int := (b.take (f + 3)).drop (f + 1)
def p3 (b : List Int) (f : Nat) : List Int := (b.take (f + 6)).drop (f + 4)
theorem three_j0t (s : ByteArray) (f : Int) : Ev (fun k => date_three.j0 k s f true) (0, 0, 0, false) := by
  refine Ev.step (f := fun _ => some _) (fun k => ?_) (Ev.now _)
  simp only [date_three.j0]
  rw [if_pos trivial]
theorem three_bad (s : ByteArray) (hs : s.size < 1000) (c : Int) (f : Nat) (hf : f ≤ 4) (h : ¬ sepOk (bytesOf s) c f) : Ev (fun k => date_three.f k s c (f : Int)) (0, 0, 0, false) := by
  have hL := len_bytes s
  have w6 : wrap64 ((f : Int) + 6) = ((f + 6 : Nat) : Int) := wrap_nn f 6 (by omega)
  have w3 : wrap64 ((f : Int) + 3) = ((f + 3 : Nat) : Int) := wrap_nn f 3 (by omega)
  refine Ev.congr (fun k => ?_) (three_j0t s f)
  unfold date_three.f
  rw [w6, w3]
  clear w6 w3
  by_cases h1 : s.size = f + 6
  · rw [if_pos (by omega), if_pos (by omega), if_pos (by omega)]
    by_cases h2 : bt s (f : Int) = c
    · rw [if_pos h2, if_pos (by omega), if_pos (by omega)]
      have h3 : bt s ((f + 3 : Nat) : Int) ≠ c := fun z => h ⟨by omega, by rw [← bt_rd, h2], by rw [← bt_rd, z]⟩
      have : (bt s ((f + 3 : Nat) : Int) != c) = true := by simpa using h3
      rw [this]
    · rw [if_neg h2]
  · rw [if_neg (by omega)]
theorem three_any (s : ByteArray) (c : Int) (f : Nat) (hf : f ≤ 4) (h : sepOk (bytesOf s) c f) : ∃ x y z, Ev (fun k => date_three.f k s c (f : Int)) (x, y, z, (p1 (bytesOf s) f).all isD && (p2 (bytesOf s) f).all isD && (p3 (bytesOf s) f).all isD) ∧
    ((p1 (bytesOf s) f).all isD = true → x = valL 0 (p1 (bytesOf s) f)) ∧ ((p2 (bytesOf s) f).all isD = true → y = valL 0 (p2 (bytesOf s) f)) ∧ ((p3 (bytesOf s) f).all isD = true → z = valL 0 (p3 (bytesOf s) f)) := by
  have hL := len_bytes s
  obtain ⟨h1, h2, h3⟩ := h
  rw [← bt_rd] at h2 h3
  have l1 : (p1 (bytesOf s) f).length ≤ 4 := by unfold p1; rw [List.length_take]; omega
  have l2 : (p2 (bytesOf s) f).length ≤ 4 := by unfold p2; rw [List.length_drop, List.length_take]; omega
  have l3 : (p3 (bytesOf s) f).length ≤ 4 := by unfold p3; rw [List.length_drop, List.length_take]; omega
  have q1 := dany s 0 f (p1 (bytesOf s) f) (by omega) (by omega) (by unfold p1; rw [Nat.zero_add, List.drop_zero]) l1 0 (f : Int) rfl rfl
  have q2 := dany s (f + 1) 2 (p2 (bytesOf s) f) (by omega) (by omega) (by unfold p2; rfl) l2 (wrap64 ((f : Int) + 1)) 2 (wrap_nn f 1 (by omega)) rfl
  have q3 := dany s (f + 4) 2 (p3 (bytesOf s) f) (by omega) (by omega) (by unfold p3; rfl) l3 (wrap64 ((f : Int) + 4)) 2 (wrap_nn f 4 (by omega)) rfl
  refine ⟨(ds 0 (p1 (bytesOf s) f)).1, (ds 0 (p2 (bytesOf s) f)).1, (ds 0 (p3 (bytesOf s) f)).1, ?_, fun g => by unfold ds; rw [if_pos g], fun g => by unfold ds; rw [if_pos g], fun g => by unfold ds; rw [if_pos g]⟩
  have e1 : (ds 0 (p1 (bytesOf s) f)).2 = (p1 (bytesOf s) f).all isD := by unfold ds; cases hh : (p1 (bytesOf s) f).all isD <;> simp
  have e2 : (ds 0 (p2 (bytesOf s) f)).2 = (p2 (bytesOf s) f).all isD := by unfold ds; cases hh : (p2 (bytesOf s) f).all isD <;> simp
  have e3 : (ds 0 (p3 (bytesOf s) f)).2 = (p3 (bytesOf s) f).all isD := by unfold ds; cases hh : (p3 (bytesOf s) f).all isD <;> simp
  rw [← e1, ← e2, ← e3]
  refine Ev.congr (f := fun k => date_three.j0 k s (f : Int) false) (fun k => ?_) ?_
  · have w6 : wrap64 ((f : Int) + 6) = ((f + 6 : Nat) : Int) := wrap_nn f 6 (by omega)
    have w3 : wrap64 ((f : Int) + 3) = ((f + 3 : Nat) : Int) := wrap_nn f 3 (by omega)
    unfold date_three.f
    rw [w6, w3]
    clear w6 w3
    rw [if_pos (by omega), if_pos (by omega), if_pos (by omega), if_pos h2, if_pos (by omega), if_pos (by omega), h3]
    simp
  refine Ev.step (f := ?qf0) ?qh0 ?qk0
  case qh0 =>
    intro k
    simp only [date_three.j0]
    rw [if_neg (by simp)]
  refine Ev.bind (g := fun k => date_digits.f k s 0 (f : Int)) q1 (Ev.bind (g := fun k => date_digits.f k s (wrap64 ((f : Int) + 1)) 2) q2 (Ev.bind (g := fun k => date_digits.f k s (wrap64 ((f : Int) + 4)) 2) q3 (Ev.congr (fun k => ?_) (Ev.now _))))
  cases (ds 0 (p1 (bytesOf s) f)).2 <;> cases (ds 0 (p2 (bytesOf s) f)).2 <;> simp
/-! ### a day and a clock -/
def dateV (y m d h i s : Int) : Int × Bool := if 1970 ≤ y ∧ 1 ≤ m ∧ m ≤ 12 ∧ 1 ≤ d ∧ d ≤ longV y m ∧ h ≤ 23 ∧ i ≤ 59 ∧ s ≤ 59 then ((Yr y + (d - 1) + mst y (m.toNat - 1)) * 86400 + h * 3600 + i * 60 + s, true) else (0, false)
def allD (b : List Int) (f : Nat) : Prop := (p1 b f).all isD = true ∧ (p2 b f).all isD = true ∧ (p3 b f).all isD = true
instance (b : List Int) (f : Nat) : Decidable (allD b f) := by unfold allD; exact inferInstance
def parseV (b c : List Int) : Int × Bool := if sepOk b 47 4 ∧ sepOk c 58 2 ∧ allD b 4 ∧ allD c 2 then dateV (valL 0 (p1 b 4)) (valL 0 (p2 b 4)) (valL 0 (p3 b 4)) (valL 0 (p1 c 2)) (valL 0 (p2 c 2)) (valL 0 (p3 c 2)) else (0, false)
theorem parse_j0t (y m d h i s : Int) : Ev (fun k => date_Parse.j0 k y m d h i s true) (0, false) := by
  refine Ev.step (f := fun _ => some _) (fun k => ?_) (Ev.now _)
  simp only [date_Parse.j0]
  rw [if_pos trivial]
theorem parse_j0f (y m d h i s : Nat) (y0 : 1970 ≤ y) (y1 : y ≤ 9999) (m0 : 1 ≤ m) (m1 : m ≤ 12) (d0 : 1 ≤ d) (d1 : (d : Int) ≤ longV y m) (hh : h < 24) (hi : i < 60) (hs : s < 60) :
    Ev (fun k => date_Parse.j0 k (y : Int) (m : Int) (d : Int) (h : Int) (i : Int) (s : Int) false) (secOf (Yr y + ((d : Int) - 1) + mst y (m - 1)) h i s, true) := by
  have hlr := longV_range (y : Int) (m : Int)
  have hyb := Yr_bound y (by omega) y0
  have hm := months_run y m m1 h i s hh hi hs (Yr y + ((d : Int) - 1)) (by omega) (by omega) (m - 1) 1 (by omega) (by omega)
  have e0 : Yr y + ((d : Int) - 1) + mst y (1 - 1) = Yr y + ((d : Int) - 1) := by show _ + 0 = _; omega
  rw [e0] at hm
  refine Ev.step (f := fun k => (date_ahead.f k (y : Int)).bind fun t122 => (date_Parse.l0 k (y : Int) (m : Int) (h : Int) (i : Int) (s : Int) (wrap64 ((wrap64 (t122 + (d : Int))) - 1)) 1)) (fun k => ?_) (Ev.bind (g := fun k => date_ahead.f k (y : Int)) (ahead_f y y0 (by omega)) (Ev.congr (fun k => ?_) hm))
  · simp only [date_Parse.j0]
    rw [if_neg (by simp)]
  · rw [wrap_in (x := Yr y + (d : Int)) (by omega) (by omega), wrap_in (by omega) (by omega)]
    have e : Yr y + (d : Int) - 1 = Yr y + ((d : Int) - 1) := by omega
    rw [e]
    rfl
end Go.Proofs.YtcgchblljhbdaaaDoor.DateS
