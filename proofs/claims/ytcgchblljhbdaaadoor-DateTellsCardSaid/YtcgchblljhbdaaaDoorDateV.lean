/- Any texts are the same second to both, or none: both readers. -/
import Derived.Test.YtcgchblljhbdaaaDoorDateU
namespace Go.Proofs.YtcgchblljhbdaaaDoor.DateS
open Go Go.RowKit Go.Proofs.YtcgchblljhbdaaaDoorW.PrintWords Go.Proofs.YtcgchblljhbdaaaDoorW.PrintMore Go.Proofs.YtcgchblljhbdaaaDoor.PL Go.Proofs.YtcgchblljhbdaaaDoor.PB Go.Proofs.YtcgchblljhbdaaaDoor.NumS Go.Proofs.YtcgchblljhbdaaaDoor.Z
set_option linter.unusedSimpArgs false
set_option linter.unusedVariables false
theorem p_len (b : List Int) (c : Int) (f : Nat) (hf : f ≤ 4) (h : sepOk b c f) : (p1 b f).length = f ∧ (p2 b f).length = 2 ∧ (p3 b f).length = 2 := by
  have := h.1
  unfold p1 p2 p3
  rw [List.length_take, List.length_drop, List.length_take, List.length_drop, List.length_take]
  omega
theorem v_range (l : List Int) (h : l.length ≤ 4) (hD : l.all isD = true) : 0 ≤ valL 0 l ∧ valL 0 l ≤ 9999 := by
  have h1 := val_mx l 0 hD (by omega)
  have h2 := mx_len l h
  omega
theorem three_all (s : ByteArray) (hs : s.size < 1000) (c : Int) (f : Nat) (hf : f ≤ 4) : ∃ x y z ok, Ev (fun k => date_three.f k s c (f : Int)) (x, y, z, ok) ∧
    (ok = true → sepOk (bytesOf s) c f ∧ allD (bytesOf s) f ∧ x = valL 0 (p1 (bytesOf s) f) ∧ y = valL 0 (p2 (bytesOf s) f) ∧ z = valL 0 (p3 (bytesOf s) f)) ∧ (ok = false → ¬ (sepOk (bytesOf s) c f ∧ allD (bytesOf s) f)) := by
  by_cases h : sepOk (bytesOf s) c f
  · obtain ⟨x, y, z, hE, g1, g2, g3⟩ := three_any s c f hf h
    refine ⟨x, y, z, _, hE, fun ho => ?_, fun ho => ?_⟩
    · rw [Bool.and_eq_true, Bool.and_eq_true] at ho
      exact ⟨h, ⟨ho.1.1, ho.1.2, ho.2⟩, g1 ho.1.1, g2 ho.1.2, g3 ho.2⟩
    · rintro ⟨_, a, b, d⟩
      rw [a, b, d] at ho
      simp at ho
  · exact ⟨0, 0, 0, false, three_bad s hs c f hf h, fun z => by (cases z), fun _ z => h z.1⟩
theorem parse_any (D C : ByteArray) (hD : D.size < 1000) (hC : C.size < 1000) : Ev (fun k => date_Parse.f k D C) (parseV (bytesOf D) (bytesOf C)) := by
  obtain ⟨x, y, z, ok, hE, h1, h2⟩ := three_all D hD 47 4 (by omega)
  obtain ⟨x', y', z', ok', hE', h1', h2'⟩ := three_all C hC 58 2 (by omega)
  refine Ev.bind (g := fun k => date_three.f k D 47 4) hE (Ev.bind (g := fun k => date_three.f k C 58 2) hE' ?_)
  cases ok with
  | false =>
    have : parseV (bytesOf D) (bytesOf C) = (0, false) := by
      unfold parseV
      rw [if_neg (fun q => h2 rfl ⟨q.1, q.2.2.1⟩)]
    rw [this]
    exact Ev.congr (fun k => by rw [if_neg (by simp)]) (parse_j0t x y z x' y' z')
  | true =>
    cases ok' with
    | false =>
      have : parseV (bytesOf D) (bytesOf C) = (0, false) := by
        unfold parseV
        rw [if_neg (fun q => h2' rfl ⟨q.2.1, q.2.2.2⟩)]
      rw [this]
      exact Ev.congr (fun k => by rw [if_pos rfl, if_neg (by simp)]) (parse_j0t x y z x' y' z')
    | true =>
      obtain ⟨s1, a1, e1, e2, e3⟩ := h1 rfl
      obtain ⟨s2, a2, e4, e5, e6⟩ := h1' rfl
      have hp : parseV (bytesOf D) (bytesOf C) = dateV x y z x' y' z' := by
        unfold parseV
        rw [if_pos ⟨s1, s2, a1, a2⟩, e1, e2, e3, e4, e5, e6]
      obtain ⟨l1, l2, l3⟩ := p_len _ _ _ (by omega) s1
      obtain ⟨l4, l5, l6⟩ := p_len _ _ _ (by omega) s2
      have r1 := v_range _ (by omega) a1.1
      have r2 := v_range _ (by omega) a1.2.1
      have r3 := v_range _ (by omega) a1.2.2
      have r4 := v_range _ (by omega) a2.1
      have r5 := v_range _ (by omega) a2.2.1
      have r6 := v_range _ (by omega) a2.2.2
      rw [← e1] at r1
      rw [← e2] at r2
      rw [← e3] at r3
      rw [← e4] at r4
      rw [← e5] at r5
      rw [← e6] at r6
      rw [hp]
      clear hp e1 e2 e3 e4 e5 e6 l1 l2 l3 l4 l5 l6 s1 s2 a1 a2 h1 h2 h1' h2' hE hE'
      have hj := parse_j0t x y z x' y' z'
      by_cases c1 : x < 1970
      · have : dateV x y z x' y' z' = (0, false) := by unfold dateV; rw [if_neg (by omega)]
        rw [this]
        exact Ev.congr (fun k => by rw [if_pos rfl, if_pos rfl, if_pos c1]) hj
      by_cases c2 : y < 1
      · have : dateV x y z x' y' z' = (0, false) := by unfold dateV; rw [if_neg (by omega)]
        rw [this]
        exact Ev.congr (fun k => by rw [if_pos rfl, if_pos rfl, if_neg c1, if_pos c2]) hj
      by_cases c3 : y > 12
      · have : dateV x y z x' y' z' = (0, false) := by unfold dateV; rw [if_neg (by omega)]
        rw [this]
        exact Ev.congr (fun k => by rw [if_pos rfl, if_pos rfl, if_neg c1, if_neg c2, if_pos c3]) hj
      by_cases c4 : z < 1
      · have : dateV x y z x' y' z' = (0, false) := by unfold dateV; rw [if_neg (by omega)]
        rw [this]
        exact Ev.congr (fun k => by rw [if_pos rfl, if_pos rfl, if_neg c1, if_neg c2, if_neg c3, if_pos c4]) hj
      refine Ev.congr (f := ?qf0) ?qh0 ?qk0
      case qh0 =>
        intro k
        rw [if_pos rfl, if_pos rfl, if_neg c1, if_neg c2, if_neg c3, if_neg c4]
      refine Ev.bind (g := fun k => date_long.f k x y) (long_f x y (by omega)) ?_
      by_cases c5 : z > longV x y
      · have : dateV x y z x' y' z' = (0, false) := by unfold dateV; rw [if_neg (by omega)]
        rw [this]
        exact Ev.congr (fun k => by rw [if_pos c5]) hj
      by_cases c6 : x' > 23
      · have : dateV x y z x' y' z' = (0, false) := by unfold dateV; rw [if_neg (by omega)]
        rw [this]
        exact Ev.congr (fun k => by rw [if_neg c5, if_pos c6]) hj
      by_cases c7 : y' > 59
      · have : dateV x y z x' y' z' = (0, false) := by unfold dateV; rw [if_neg (by omega)]
        rw [this]
        exact Ev.congr (fun k => by rw [if_neg c5, if_neg c6, if_pos c7]) hj
      by_cases c8 : z' > 59
      · have : dateV x y z x' y' z' = (0, false) := by unfold dateV; rw [if_neg (by omega)]
        rw [this]
        refine Ev.congr (fun k => ?_) hj
        rw [if_neg c5, if_neg c6, if_neg c7]
        show date_Parse.j0 k x y z x' y' z' (decide (z' > 59)) = _
        rw [decide_eq_true c8]
      have hv : dateV x y z x' y' z' = ((Yr x + (z - 1) + mst x (y.toNat - 1)) * 86400 + x' * 3600 + y' * 60 + z', true) := by unfold dateV; rw [if_pos (by omega)]
      have hf := parse_j0f x.toNat y.toNat z.toNat x'.toNat y'.toNat z'.toNat (by omega) (by omega) (by omega) (by omega) (by omega) (by rw [show ((x.toNat : Nat) : Int) = x by omega, show ((y.toNat : Nat) : Int) = y by omega]; omega) (by omega) (by omega) (by omega)
      unfold secOf at hf
      rw [show ((x.toNat : Nat) : Int) = x by omega, show ((y.toNat : Nat) : Int) = y by omega, show ((z.toNat : Nat) : Int) = z by omega, show ((x'.toNat : Nat) : Int) = x' by omega, show ((y'.toNat : Nat) : Int) = y' by omega, show ((z'.toNat : Nat) : Int) = z' by omega] at hf
      rw [hv]
      refine Ev.congr (fun k => ?_) hf
      rw [if_neg c5, if_neg c6, if_neg c7]
      show date_Parse.j0 k x y z x' y' z' (decide (z' > 59)) = _
      rw [decide_eq_false c8]
theorem rdate_j0t (a b : ByteArray) : Ev (fun k => gleberef1_Date.j0 k a b true) (0, false) := by
  refine Ev.step (f := fun _ => some _) (fun k => ?_) (Ev.now _)
  simp only [gleberef1_Date.j0]
  rw [if_pos trivial]
theorem dv_range (l : List Int) (h : l.length ≤ 4) : -1 ≤ dv 0 l ∧ dv 0 l ≤ 9999 ∧ (0 ≤ dv 0 l → l.all isD = true) := by
  unfold dv
  by_cases hD : l.all isD = true
  · have := v_range l h hD
    rw [if_pos hD]
    exact ⟨by omega, by omega, fun _ => hD⟩
  · rw [if_neg hD]
    exact ⟨by omega, by omega, fun z => by omega⟩
def cond8 (Y M D H I S : Int) : Prop := 1970 ≤ Y ∧ 1 ≤ M ∧ M ≤ 12 ∧ 1 ≤ D ∧ D ≤ longV Y M ∧ 0 ≤ H ∧ H ≤ 23 ∧ 0 ≤ I ∧ I ≤ 59 ∧ 0 ≤ S ∧ S ≤ 59
instance (Y M D H I S : Int) : Decidable (cond8 Y M D H I S) := by unfold cond8; exact inferInstance
theorem rdate_any (A B : ByteArray) (hA : A.size < 1000) (hB : B.size < 1000) : Ev (fun k => gleberef1_Date.f k A B) (parseV (bytesOf A) (bytesOf B)) := by
  have hLA := len_bytes A
  have hLB := len_bytes B
  have r4 : bt A 4 = rd (bytesOf A) ((4 : Nat) : Int) := bt_rd A 4
  have r7 : bt A 7 = rd (bytesOf A) ((4 + 3 : Nat) : Int) := bt_rd A 7
  have q2 : bt B 2 = rd (bytesOf B) ((2 : Nat) : Int) := bt_rd B 2
  have q5 : bt B 5 = rd (bytesOf B) ((2 + 3 : Nat) : Int) := bt_rd B 5
  have hj := rdate_j0t A B
  by_cases hs : sepOk (bytesOf A) 47 4 ∧ sepOk (bytesOf B) 58 2
  · obtain ⟨sA, sB⟩ := hs
    have zA : A.size = 10 := by rw [← hLA]; exact sA.1
    have zB : B.size = 8 := by rw [← hLB]; exact sB.1
    obtain ⟨l1, l2, l3⟩ := p_len _ _ _ (by omega) sA
    obtain ⟨l4, l5, l6⟩ := p_len _ _ _ (by omega) sB
    have d1 := rdany (A.extract 0 4) (p1 (bytesOf A) 4) (by rw [bytesOf_extract]; unfold p1; rw [List.drop_zero]) (by omega) 4 (by rw [l1]; rfl)
    have d2 := rdany (A.extract 5 7) (p2 (bytesOf A) 4) (by rw [bytesOf_extract]; rfl) (by omega) 2 (by rw [l2]; rfl)
    have d3 := rdany (A.extract 8 A.size) (p3 (bytesOf A) 4) (by rw [bytesOf_extract, zA]; rfl) (by omega) 2 (by rw [l3]; rfl)
    have d4 := rdany (B.extract 0 2) (p1 (bytesOf B) 2) (by rw [bytesOf_extract]; unfold p1; rw [List.drop_zero]) (by omega) 2 (by rw [l4]; rfl)
    have d5 := rdany (B.extract 3 5) (p2 (bytesOf B) 2) (by rw [bytesOf_extract]; rfl) (by omega) 2 (by rw [l5]; rfl)
    have d6 := rdany (B.extract 6 B.size) (p3 (bytesOf B) 2) (by rw [bytesOf_extract, zB]; rfl) (by omega) 2 (by rw [l6]; rfl)
    have hp : parseV (bytesOf A) (bytesOf B) = if cond8 (dv 0 (p1 (bytesOf A) 4)) (dv 0 (p2 (bytesOf A) 4)) (dv 0 (p3 (bytesOf A) 4)) (dv 0 (p1 (bytesOf B) 2)) (dv 0 (p2 (bytesOf B) 2)) (dv 0 (p3 (bytesOf B) 2)) then ((Yr (dv 0 (p1 (bytesOf A) 4)) + (dv 0 (p3 (bytesOf A) 4) - 1) + mst (dv 0 (p1 (bytesOf A) 4)) ((dv 0 (p2 (bytesOf A) 4)).toNat - 1)) * 86400 + dv 0 (p1 (bytesOf B) 2) * 3600 + dv 0 (p2 (bytesOf B) 2) * 60 + dv 0 (p3 (bytesOf B) 2), true) else (0, false) := by
      have g1 := dv_range (p1 (bytesOf A) 4) (by omega)
      have g2 := dv_range (p2 (bytesOf A) 4) (by omega)
      have g3 := dv_range (p3 (bytesOf A) 4) (by omega)
      have g4 := dv_range (p1 (bytesOf B) 2) (by omega)
      have g5 := dv_range (p2 (bytesOf B) 2) (by omega)
      have g6 := dv_range (p3 (bytesOf B) 2) (by omega)
      unfold parseV
      by_cases hall : allD (bytesOf A) 4 ∧ allD (bytesOf B) 2
      · rw [if_pos ⟨sA, sB, hall.1, hall.2⟩]
        have t1 : dv 0 (p1 (bytesOf A) 4) = valL 0 (p1 (bytesOf A) 4) := if_pos hall.1.1
        have t2 : dv 0 (p2 (bytesOf A) 4) = valL 0 (p2 (bytesOf A) 4) := if_pos hall.1.2.1
        have t3 : dv 0 (p3 (bytesOf A) 4) = valL 0 (p3 (bytesOf A) 4) := if_pos hall.1.2.2
        have t4 : dv 0 (p1 (bytesOf B) 2) = valL 0 (p1 (bytesOf B) 2) := if_pos hall.2.1
        have t5 : dv 0 (p2 (bytesOf B) 2) = valL 0 (p2 (bytesOf B) 2) := if_pos hall.2.2.1
        have t6 : dv 0 (p3 (bytesOf B) 2) = valL 0 (p3 (bytesOf B) 2) := if_pos hall.2.2.2
        have n4 := v_range (p1 (bytesOf B) 2) (by omega) hall.2.1
        have n5 := v_range (p2 (bytesOf B) 2) (by omega) hall.2.2.1
        have n6 := v_range (p3 (bytesOf B) 2) (by omega) hall.2.2.2
        rw [t1, t2, t3, t4, t5, t6]
        unfold dateV
        by_cases hc : cond8 (valL 0 (p1 (bytesOf A) 4)) (valL 0 (p2 (bytesOf A) 4)) (valL 0 (p3 (bytesOf A) 4)) (valL 0 (p1 (bytesOf B) 2)) (valL 0 (p2 (bytesOf B) 2)) (valL 0 (p3 (bytesOf B) 2))
        · rw [if_pos hc]
          unfold cond8 at hc
          rw [if_pos (by omega)]
        · rw [if_neg hc]
          unfold cond8 at hc
          rw [if_neg (by omega)]
      · rw [if_neg (fun z => hall z.2.2), if_neg]
        intro hc
        unfold cond8 at hc
        exact hall ⟨⟨g1.2.2 (by omega), g2.2.2 (by omega), g3.2.2 (by omega)⟩, ⟨g4.2.2 (by omega), g5.2.2 (by omega), g6.2.2 (by omega)⟩⟩
    have g1 := dv_range (p1 (bytesOf A) 4) (by omega)
    have g2 := dv_range (p2 (bytesOf A) 4) (by omega)
    have g3 := dv_range (p3 (bytesOf A) 4) (by omega)
    have g4 := dv_range (p1 (bytesOf B) 2) (by omega)
    have g5 := dv_range (p2 (bytesOf B) 2) (by omega)
    have g6 := dv_range (p3 (bytesOf B) 2) (by omega)
    rw [hp]
    clear hp l1 l2 l3 l4 l5 l6
    generalize dv 0 (p1 (bytesOf A) 4) = Y at d1 g1 ⊢
    generalize dv 0 (p2 (bytesOf A) 4) = M at d2 g2 ⊢
    generalize dv 0 (p3 (bytesOf A) 4) = D at d3 g3 ⊢
    generalize dv 0 (p1 (bytesOf B) 2) = H at d4 g4 ⊢
    generalize dv 0 (p2 (bytesOf B) 2) = I at d5 g5 ⊢
    generalize dv 0 (p3 (bytesOf B) 2) = S at d6 g6 ⊢
    refine Ev.congr (f := fun k => gleberef1_Date.j0 k A B false) (fun k => ?_) ?_
    · have e4 : bt A 4 = 47 := by rw [r4]; exact sA.2.1
      have e7 : bt A 7 = 47 := by rw [r7]; exact sA.2.2
      have e2 : bt B 2 = 58 := by rw [q2]; exact sB.2.1
      have e5 : bt B 5 = 58 := by rw [q5]; exact sB.2.2
      unfold gleberef1_Date.f
      rw [if_pos (by omega), if_pos (by omega), if_pos (by omega), if_pos e4, if_pos (by omega), if_pos e7, if_pos (by omega), if_pos e2, if_pos (by omega), e5]
      rfl
    refine Ev.step (f := ?qf0) ?qh0 ?qk0
    case qh0 =>
      intro k
      simp only [gleberef1_Date.j0]
      rw [if_neg (by simp), if_pos (by omega)]
    refine Ev.bind (g := fun k => gleberef1_digits.f k (A.extract 0 4) 4) d1 ?_
    refine Ev.congr (f := ?qf1) ?qh1 ?qk1
    case qh1 =>
      intro k
      rw [if_pos (by omega)]
    refine Ev.bind (g := fun k => gleberef1_digits.f k (A.extract 5 7) 2) d2 ?_
    refine Ev.congr (f := ?qf2) ?qh2 ?qk2
    case qh2 =>
      intro k
      rw [if_pos (by omega)]
    refine Ev.bind (g := fun k => gleberef1_digits.f k (A.extract 8 A.size) 2) d3 ?_
    refine Ev.congr (f := ?qf3) ?qh3 ?qk3
    case qh3 =>
      intro k
      rw [if_pos (by omega)]
    refine Ev.bind (g := fun k => gleberef1_digits.f k (B.extract 0 2) 2) d4 ?_
    refine Ev.congr (f := ?qf4) ?qh4 ?qk4
    case qh4 =>
      intro k
      rw [if_pos (by omega)]
    refine Ev.bind (g := fun k => gleberef1_digits.f k (B.extract 3 5) 2) d5 ?_
    refine Ev.congr (f := ?qf5) ?qh5 ?qk5
    case qh5 =>
      intro k
      rw [if_pos (by omega)]
    refine Ev.bind (g := fun k => gleberef1_digits.f k (B.extract 6 B.size) 2) d6 ?_
    have bad : ¬ cond8 Y M D H I S → (if cond8 Y M D H I S then ((Yr Y + (D - 1) + mst Y (M.toNat - 1)) * 86400 + H * 3600 + I * 60 + S, true) else ((0 : Int), false)) = (0, false) := fun z => if_neg z
    by_cases c1 : Y < 1970
    · rw [bad (by unfold cond8; omega)]
      exact Ev.congr (fun k => by rw [if_pos c1]) (Ev.now _)
    by_cases c2 : M < 1
    · rw [bad (by unfold cond8; omega)]
      exact Ev.congr (fun k => by rw [if_neg c1, if_pos c2]) (Ev.now _)
    by_cases c3 : M > 12
    · rw [bad (by unfold cond8; omega)]
      exact Ev.congr (fun k => by rw [if_neg c1, if_neg c2, if_pos c3]) (Ev.now _)
    by_cases c4 : D < 1
    · rw [bad (by unfold cond8; omega)]
      exact Ev.congr (fun k => by rw [if_neg c1, if_neg c2, if_neg c3, if_pos c4]) (Ev.now _)
    have hmn := rmonth Y M (by omega) (by omega) (by omega)
    by_cases c5 : D > longV Y M
    · rw [bad (by unfold cond8; omega)]
      exact Ev.congr (fun k => by rw [if_neg c1, if_neg c2, if_neg c3, if_neg c4, hmn, Option.bind_some, if_pos c5]) (Ev.now _)
    by_cases c6 : H < 0
    · rw [bad (by unfold cond8; omega)]
      exact Ev.congr (fun k => by rw [if_neg c1, if_neg c2, if_neg c3, if_neg c4, hmn, Option.bind_some, if_neg c5, if_pos c6]) (Ev.now _)
    by_cases c7 : H > 23
    · rw [bad (by unfold cond8; omega)]
      exact Ev.congr (fun k => by rw [if_neg c1, if_neg c2, if_neg c3, if_neg c4, hmn, Option.bind_some, if_neg c5, if_neg c6, if_pos c7]) (Ev.now _)
    by_cases c8 : I < 0
    · rw [bad (by unfold cond8; omega)]
      exact Ev.congr (fun k => by rw [if_neg c1, if_neg c2, if_neg c3, if_neg c4, hmn, Option.bind_some, if_neg c5, if_neg c6, if_neg c7, if_pos c8]) (Ev.now _)
    by_cases c9 : I > 59
    · rw [bad (by unfold cond8; omega)]
      exact Ev.congr (fun k => by rw [if_neg c1, if_neg c2, if_neg c3, if_neg c4, hmn, Option.bind_some, if_neg c5, if_neg c6, if_neg c7, if_neg c8, if_pos c9]) (Ev.now _)
    by_cases c10 : S < 0
    · rw [bad (by unfold cond8; omega)]
      exact Ev.congr (fun k => by rw [if_neg c1, if_neg c2, if_neg c3, if_neg c4, hmn, Option.bind_some, if_neg c5, if_neg c6, if_neg c7, if_neg c8, if_neg c9, if_pos c10]) (Ev.now _)
    by_cases c11 : S > 59
    · rw [bad (by unfold cond8; omega)]
      exact Ev.congr (fun k => by rw [if_neg c1, if_neg c2, if_neg c3, if_neg c4, hmn, Option.bind_some, if_neg c5, if_neg c6, if_neg c7, if_neg c8, if_neg c9, if_neg c10, if_pos c11]) (Ev.now _)
    have hlr := longV_range Y M
    rw [if_pos (by unfold cond8; omega)]
    refine Ev.congr (f := ?qf6) ?qh6 ?qk6
    case qh6 =>
      intro k
      rw [if_neg c1, if_neg c2, if_neg c3, if_neg c4, hmn, Option.bind_some, if_neg c5, if_neg c6, if_neg c7, if_neg c8, if_neg c9, if_neg c10, if_neg c11]
    have hd := rdays Y.toNat (by omega) (by omega) M.toNat (by omega) (by omega) D (by omega) (by omega)
    rw [show ((Y.toNat : Nat) : Int) = Y by omega, show ((M.toNat : Nat) : Int) = M by omega] at hd
    refine Ev.bind (g := fun k => gleberef1_days.f k Y M D) hd (Ev.congr (fun k => ?_) (Ev.now _))
    have hyb := Yr_bound Y.toNat (by omega) (by omega)
    rw [show ((Y.toNat : Nat) : Int) = Y by omega] at hyb
    have hmb := mst_bound Y (M.toNat - 1) (by omega)
    have hsum : Yr Y + mst Y (M.toNat - 1) + (D - 1) = Yr Y + (D - 1) + mst Y (M.toNat - 1) := by omega
    rw [hsum]
    generalize Yr Y + (D - 1) + mst Y (M.toNat - 1) = T at hsum ⊢
    have hT : 0 ≤ T ∧ T ≤ 4000000 := by omega
    clear hsum hyb hmb hd bad hlr hmn d1 d2 d3 d4 d5 d6
    rw [wrap_in (x := T * 86400) (by omega) (by omega), wrap_in (x := H * 3600) (by omega) (by omega), wrap_in (x := T * 86400 + H * 3600) (by omega) (by omega), wrap_in (x := I * 60) (by omega) (by omega), wrap_in (x := T * 86400 + H * 3600 + I * 60) (by omega) (by omega), wrap_in (by omega) (by omega), uw _ (by omega) (by omega)]
  · have hp : parseV (bytesOf A) (bytesOf B) = (0, false) := by
      unfold parseV
      rw [if_neg (fun z => hs ⟨z.1, z.2.1⟩)]
    rw [hp]
    refine Ev.congr (fun k => ?_) hj
    unfold gleberef1_Date.f
    by_cases h1 : A.size = 10
    · by_cases h2 : B.size = 8
      · rw [if_pos (by omega), if_pos (by omega), if_pos (by omega)]
        by_cases h3 : bt A 4 = 47
        · rw [if_pos h3, if_pos (by omega)]
          by_cases h4 : bt A 7 = 47
          · rw [if_pos h4, if_pos (by omega)]
            by_cases h5 : bt B 2 = 58
            · rw [if_pos h5, if_pos (by omega)]
              have h6 : bt B 5 ≠ 58 := fun z => hs ⟨⟨by omega, by rw [← r4, h3], by rw [← r7, h4]⟩, ⟨by omega, by rw [← q2, h5], by rw [← q5, z]⟩⟩
              have : (bt B 5 != 58) = true := by simpa using h6
              rw [this]
            · rw [if_neg h5]
          · rw [if_neg h4]
        · rw [if_neg h3]
      · rw [if_pos (by omega), if_neg (by omega)]
    · rw [if_neg (by omega)]
end Go.Proofs.YtcgchblljhbdaaaDoor.DateS
