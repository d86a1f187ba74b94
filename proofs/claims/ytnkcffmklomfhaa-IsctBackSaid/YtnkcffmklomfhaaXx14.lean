-- Printed by this session's own program (wip/xprint) out of the translation. Lean checks it.
import Derived.Test.YtnkcffmklomfhaaXx0
import Derived.Test.YtnkcffmklomfhaaXx5
import Derived.Test.YtnkcffmklomfhaaXx6
import Derived.Test.YtnkcffmklomfhaaXx9
namespace Go.Proofs.Ytnkcffmklomfhaa.X
open Go.Proofs.Ytnkcffmklomfhaa
open Go.RowKit Go.Proofs.YtnkcffmklomfhaaW.PrintWords Go.Proofs.YtnkcffmklomfhaaW.PrintLast Go.Proofs.YtnkcffmklomfhaaW.PrintMore
attribute [local go_sem] max2_int min2_int max_two min_two max_three min_three max_four min_four   -- for this text's walks alone
set_option linter.unusedVariables false
set_option linter.unusedSimpArgs false

/-! ### glebelaw8_IsctBack: function 6 -/
mutual
def glebelaw8_IsctBack.l0 : Nat → List Int → ByteArray → List Int → Int → Int → Option (Bool)
  | 0, _, _, _, _, _ => none
  | k + 1, x1, x5, x21, x22, x23 => if x23 < x22 then (if 0 ≤ x23 then (if x23 < (x21.length : Int) then ((some (([(32 + (Int.tmod (rd x21 x23) 95)) % 256] : List Int) : List Int)).bind fun y385 => (if x5.size + (strOfNums y385).size ≤ 9223372036854775807 then (glebelaw8_IsctBack.l0 k x1 (x5 ++ (strOfNums y385)) x21 x22 (wrap64 (x23 + 1))) else (none))) else (none)) else (none)) else ((isct_Quote.f k x5).bind fun t388 => (if 2 + t388.size ≤ 9223372036854775807 then (if 2 + t388.size + 1 ≤ 9223372036854775807 then ((isct_Tokens.f k (bytesOf (((⟨#[97, 32]⟩ : ByteArray) ++ t388) ++ (⟨#[98]⟩ : ByteArray)))).bind fun bt392 => (if bt392.2.1 = 0 then (if (bt392.1.length : Int) = 3 then (if 1 < (bt392.1.length : Int) then (if ((rd_T33 bt392.1 1).f0) = 3 then (if ((rd_T33 bt392.1 1).f1).toList = x5.toList then (if ((rd_T33 bt392.1 1).f2) = 2 then (if 2 < (bt392.1.length : Int) then (glebelaw8_IsctBack.j1 k x1 (((rd_T33 bt392.1 2).f1).toList != ([98] : List UInt8))) else (none)) else (glebelaw8_IsctBack.j1 k x1 true)) else (glebelaw8_IsctBack.j1 k x1 true)) else (glebelaw8_IsctBack.j1 k x1 true)) else (none)) else (glebelaw8_IsctBack.j1 k x1 true)) else (glebelaw8_IsctBack.j1 k x1 true))) else (none)) else (none)))
def glebelaw8_IsctBack.j1 : Nat → List Int → Bool → Option (Bool)
  | 0, _, _ => none
  | k + 1, x1, x80 => if x80 = true then (none) else ((glebelaw8_Text.f k x1).bind fun t402 => ((isct_Tokens.f k t402).bind fun bt405 => (if bt405.2.1 = 0 then (glebelaw8_IsctBack.l1 k bt405.1 ([] : List Int) (bt405.1.length : Int) 0) else (if (bt405.1.length : Int) = 0 then (if bt405.2.2 ≥ 0 then ((glebelaw8_Text.f k x1).bind fun t411 => (if bt405.2.2 ≤ (t411.length : Int) then ((glebelaw8_awake.f k).bind fun t414 => (some t414)) else (none))) else (none)) else (none)))))
def glebelaw8_IsctBack.l1 : Nat → List (S33) → List Int → Int → Int → Option (Bool)
  | 0, _, _, _, _ => none
  | k + 1, x10, x12, x110, x111 => if x111 < x110 then (if x12.length + 7 < 140737488355328 then ((some (x12 ++ bytesOf (⟨#[32, 9, 35, 32, 195, 169, 10]⟩ : ByteArray) : List Int)).bind fun y415 => (if 0 ≤ x111 then (if x111 < (x10.length : Int) then (if ((rd_T33 x10 x111).f0) = 3 then ((isct_Quote.f k ((rd_T33 x10 x111).f1)).bind fun t420 => (if y415.length + t420.size < 140737488355328 then (glebelaw8_IsctBack.l1 k x10 (y415 ++ bytesOf t420) x110 (wrap64 (x111 + 1))) else (none))) else (if y415.length + ((rd_T33 x10 x111).f1).size < 140737488355328 then (glebelaw8_IsctBack.l1 k x10 (y415 ++ bytesOf ((rd_T33 x10 x111).f1)) x110 (wrap64 (x111 + 1))) else (none))) else (none)) else (none))) else (none)) else ((isct_Tokens.f k x12).bind fun bt428 => (if bt428.2.1 = 0 then (glebelaw8_IsctBack.j3 k x10 bt428.1 ((bt428.1.length : Int) != (x10.length : Int))) else (glebelaw8_IsctBack.j3 k x10 bt428.1 true)))
def glebelaw8_IsctBack.j3 : Nat → List (S33) → List (S33) → Bool → Option (Bool)
  | 0, _, _, _ => none
  | k + 1, x10, x14, x152 => if x152 = true then (none) else (glebelaw8_IsctBack.l2 k x10 x14 (x14.length : Int) 0)
def glebelaw8_IsctBack.l2 : Nat → List (S33) → List (S33) → Int → Int → Option (Bool)
  | 0, _, _, _, _ => none
  | k + 1, x10, x14, x154, x155 => if x155 < x154 then (if 0 ≤ x155 then (if x155 < (x14.length : Int) then (if x155 < (x10.length : Int) then (if ((rd_T33 x14 x155).f0) = ((rd_T33 x10 x155).f0) then (if ((rd_T33 x14 x155).f1).toList = ((rd_T33 x10 x155).f1).toList then (glebelaw8_IsctBack.l2 k x10 x14 x154 (wrap64 (x155 + 1))) else (none)) else (none)) else (none)) else (none)) else (none)) else ((glebelaw8_awake.f k).bind fun t438 => (some t438))
end
def glebelaw8_IsctBack.f (k : Nat) (l0 : List Int) (l1 : List Int) : Option (Bool) := if (l0.length : Int) > 255 then ((glebelaw8_awake.f k).bind fun t383 => (some t383)) else (glebelaw8_IsctBack.l0 k l1 (⟨#[]⟩ : ByteArray) l0 (l0.length : Int) 0)
theorem glebelaw8_IsctBack.mono_l : ∀ k, (∀ y0 y1 y2 y3 y4, LeO (glebelaw8_IsctBack.l0 k y0 y1 y2 y3 y4) (glebelaw8_IsctBack.l0 (k + 1) y0 y1 y2 y3 y4)) ∧ (∀ y0 y1, LeO (glebelaw8_IsctBack.j1 k y0 y1) (glebelaw8_IsctBack.j1 (k + 1) y0 y1)) ∧ (∀ y0 y1 y2 y3, LeO (glebelaw8_IsctBack.l1 k y0 y1 y2 y3) (glebelaw8_IsctBack.l1 (k + 1) y0 y1 y2 y3)) ∧ (∀ y0 y1 y2, LeO (glebelaw8_IsctBack.j3 k y0 y1 y2) (glebelaw8_IsctBack.j3 (k + 1) y0 y1 y2)) ∧ (∀ y0 y1 y2 y3, LeO (glebelaw8_IsctBack.l2 k y0 y1 y2 y3) (glebelaw8_IsctBack.l2 (k + 1) y0 y1 y2 y3))
  | 0 => ⟨fun _ _ _ _ _ r h => by simp [glebelaw8_IsctBack.l0] at h, fun _ _ r h => by simp [glebelaw8_IsctBack.j1] at h, fun _ _ _ _ r h => by simp [glebelaw8_IsctBack.l1] at h, fun _ _ _ r h => by simp [glebelaw8_IsctBack.j3] at h, fun _ _ _ _ r h => by simp [glebelaw8_IsctBack.l2] at h⟩
  | k + 1 => by
    obtain ⟨ih0, ih1, ih2, ih3, ih4⟩ := glebelaw8_IsctBack.mono_l k
    refine ⟨?_, ?_, ?_, ?_, ?_⟩
    · intro y0 y1 y2 y3 y4
      unfold glebelaw8_IsctBack.l0
      repeat' first
      | (with_reducible exact ih0 _ _ _ _ _)
      | (with_reducible exact ih1 _ _)
      | (with_reducible exact ih2 _ _ _ _)
      | (with_reducible exact ih3 _ _ _)
      | (with_reducible exact ih4 _ _ _ _)
      | (with_reducible exact glebelaw8_Text.mono _ _)
      | (with_reducible exact glebelaw8_awake.mono _)
      | (with_reducible exact isct_Quote.mono _ _)
      | (with_reducible exact isct_Tokens.mono _ _)
      | (with_reducible exact LeO.refl _)
      | (with_reducible exact LeO.none _)
      | (with_reducible refine LeO.ite ?_ ?_)
      | (with_reducible refine LeO.bind ?_ (fun _ => ?_))
      | exact ih0 _ _ _ _ _
      | exact ih1 _ _
      | exact ih2 _ _ _ _
      | exact ih3 _ _ _
      | exact ih4 _ _ _ _
      | exact glebelaw8_Text.mono _ _
      | exact glebelaw8_awake.mono _
      | exact isct_Quote.mono _ _
      | exact isct_Tokens.mono _ _
      | exact LeO.none _
      | refine LeO.ite ?_ ?_
      | refine LeO.bind ?_ (fun _ => ?_)
    · intro y0 y1
      unfold glebelaw8_IsctBack.j1
      repeat' first
      | (with_reducible exact ih0 _ _ _ _ _)
      | (with_reducible exact ih1 _ _)
      | (with_reducible exact ih2 _ _ _ _)
      | (with_reducible exact ih3 _ _ _)
      | (with_reducible exact ih4 _ _ _ _)
      | (with_reducible exact glebelaw8_Text.mono _ _)
      | (with_reducible exact glebelaw8_awake.mono _)
      | (with_reducible exact isct_Quote.mono _ _)
      | (with_reducible exact isct_Tokens.mono _ _)
      | (with_reducible exact LeO.refl _)
      | (with_reducible exact LeO.none _)
      | (with_reducible refine LeO.ite ?_ ?_)
      | (with_reducible refine LeO.bind ?_ (fun _ => ?_))
      | exact ih0 _ _ _ _ _
      | exact ih1 _ _
      | exact ih2 _ _ _ _
      | exact ih3 _ _ _
      | exact ih4 _ _ _ _
      | exact glebelaw8_Text.mono _ _
      | exact glebelaw8_awake.mono _
      | exact isct_Quote.mono _ _
      | exact isct_Tokens.mono _ _
      | exact LeO.none _
      | refine LeO.ite ?_ ?_
      | refine LeO.bind ?_ (fun _ => ?_)
    · intro y0 y1 y2 y3
      unfold glebelaw8_IsctBack.l1
      repeat' first
      | (with_reducible exact ih0 _ _ _ _ _)
      | (with_reducible exact ih1 _ _)
      | (with_reducible exact ih2 _ _ _ _)
      | (with_reducible exact ih3 _ _ _)
      | (with_reducible exact ih4 _ _ _ _)
      | (with_reducible exact glebelaw8_Text.mono _ _)
      | (with_reducible exact glebelaw8_awake.mono _)
      | (with_reducible exact isct_Quote.mono _ _)
      | (with_reducible exact isct_Tokens.mono _ _)
      | (with_reducible exact LeO.refl _)
      | (with_reducible exact LeO.none _)
      | (with_reducible refine LeO.ite ?_ ?_)
      | (with_reducible refine LeO.bind ?_ (fun _ => ?_))
      | exact ih0 _ _ _ _ _
      | exact ih1 _ _
      | exact ih2 _ _ _ _
      | exact ih3 _ _ _
      | exact ih4 _ _ _ _
      | exact glebelaw8_Text.mono _ _
      | exact glebelaw8_awake.mono _
      | exact isct_Quote.mono _ _
      | exact isct_Tokens.mono _ _
      | exact LeO.none _
      | refine LeO.ite ?_ ?_
      | refine LeO.bind ?_ (fun _ => ?_)
    · intro y0 y1 y2
      unfold glebelaw8_IsctBack.j3
      repeat' first
      | (with_reducible exact ih0 _ _ _ _ _)
      | (with_reducible exact ih1 _ _)
      | (with_reducible exact ih2 _ _ _ _)
      | (with_reducible exact ih3 _ _ _)
      | (with_reducible exact ih4 _ _ _ _)
      | (with_reducible exact glebelaw8_Text.mono _ _)
      | (with_reducible exact glebelaw8_awake.mono _)
      | (with_reducible exact isct_Quote.mono _ _)
      | (with_reducible exact isct_Tokens.mono _ _)
      | (with_reducible exact LeO.refl _)
      | (with_reducible exact LeO.none _)
      | (with_reducible refine LeO.ite ?_ ?_)
      | (with_reducible refine LeO.bind ?_ (fun _ => ?_))
      | exact ih0 _ _ _ _ _
      | exact ih1 _ _
      | exact ih2 _ _ _ _
      | exact ih3 _ _ _
      | exact ih4 _ _ _ _
      | exact glebelaw8_Text.mono _ _
      | exact glebelaw8_awake.mono _
      | exact isct_Quote.mono _ _
      | exact isct_Tokens.mono _ _
      | exact LeO.none _
      | refine LeO.ite ?_ ?_
      | refine LeO.bind ?_ (fun _ => ?_)
    · intro y0 y1 y2 y3
      unfold glebelaw8_IsctBack.l2
      repeat' first
      | (with_reducible exact ih0 _ _ _ _ _)
      | (with_reducible exact ih1 _ _)
      | (with_reducible exact ih2 _ _ _ _)
      | (with_reducible exact ih3 _ _ _)
      | (with_reducible exact ih4 _ _ _ _)
      | (with_reducible exact glebelaw8_Text.mono _ _)
      | (with_reducible exact glebelaw8_awake.mono _)
      | (with_reducible exact isct_Quote.mono _ _)
      | (with_reducible exact isct_Tokens.mono _ _)
      | (with_reducible exact LeO.refl _)
      | (with_reducible exact LeO.none _)
      | (with_reducible refine LeO.ite ?_ ?_)
      | (with_reducible refine LeO.bind ?_ (fun _ => ?_))
      | exact ih0 _ _ _ _ _
      | exact ih1 _ _
      | exact ih2 _ _ _ _
      | exact ih3 _ _ _
      | exact ih4 _ _ _ _
      | exact glebelaw8_Text.mono _ _
      | exact glebelaw8_awake.mono _
      | exact isct_Quote.mono _ _
      | exact isct_Tokens.mono _ _
      | exact LeO.none _
      | refine LeO.ite ?_ ?_
      | refine LeO.bind ?_ (fun _ => ?_)
theorem glebelaw8_IsctBack.mono : ∀ a0 a1 k, LeO (glebelaw8_IsctBack.f k a0 a1) (glebelaw8_IsctBack.f (k + 1) a0 a1) := by
  intro a0 a1 k
  obtain ⟨ih0, ih1, ih2, ih3, ih4⟩ := glebelaw8_IsctBack.mono_l k
  unfold glebelaw8_IsctBack.f
  repeat' first
      | (with_reducible exact ih0 _ _ _ _ _)
      | (with_reducible exact ih1 _ _)
      | (with_reducible exact ih2 _ _ _ _)
      | (with_reducible exact ih3 _ _ _)
      | (with_reducible exact ih4 _ _ _ _)
      | (with_reducible exact glebelaw8_Text.mono _ _)
      | (with_reducible exact glebelaw8_awake.mono _)
      | (with_reducible exact isct_Quote.mono _ _)
      | (with_reducible exact isct_Tokens.mono _ _)
      | (with_reducible exact LeO.refl _)
      | (with_reducible exact LeO.none _)
      | (with_reducible refine LeO.ite ?_ ?_)
      | (with_reducible refine LeO.bind ?_ (fun _ => ?_))
      | exact ih0 _ _ _ _ _
      | exact ih1 _ _
      | exact ih2 _ _ _ _
      | exact ih3 _ _ _
      | exact ih4 _ _ _ _
      | exact glebelaw8_Text.mono _ _
      | exact glebelaw8_awake.mono _
      | exact isct_Quote.mono _ _
      | exact isct_Tokens.mono _ _
      | exact LeO.none _
      | refine LeO.ite ?_ ?_
      | refine LeO.bind ?_ (fun _ => ?_)
def glebelaw8_IsctBack.T14 : Bool × List (List Nat × List Nat) := (true, [([], []), ([0], [0]), ([1], [1]), ([2], [2]), ([3], [3]), ([4, 3], [3, 4]), ([5, 3], [3, 5]), ([3, 6], [3, 6]), ([7, 3], [7]), ([8], [8]), ([9, 8], [8, 9]), ([8], [8]), ([11, 8, 8], [8, 11]), ([12, 8], [8, 12]), ([10, 13, 8], [8, 10, 13]), ([8, 14], [8, 14]), ([15, 12], [15]), ([16, 16], [16]), ([16, 17], [16, 17]), ([18, 17, 0, 1, 2, 3, 4, 5, 6, 7, 8, 9, 10, 11, 12, 13, 14, 15, 16, 17, 18], [18])])
def glebelaw8_IsctBack.B14 : List Nat := [0, 1, 3, 7, 15, 31, 63, 127, 255, 511, 1023, 511, 2559, 6655, 16383, 32767, 65535, 131071, 262143, 524287]
theorem glebelaw8_IsctBack.tab14 : rtab .any (opsOf Try.f6 14) = glebelaw8_IsctBack.T14 := by kernel_rfl
theorem glebelaw8_IsctBack.bits14 : waitsOk glebelaw8_IsctBack.T14.2 glebelaw8_IsctBack.B14 = true := by kernel_rfl
def glebelaw8_IsctBack.T30 : Bool × List (List Nat × List Nat) := (true, [([], []), ([], []), ([0, 1], [0, 1]), ([2], [2]), ([3], [3]), ([], []), ([], []), ([5, 6], [5, 6]), ([7], [7]), ([8], [8]), ([4, 9], [4, 9]), ([10], [10]), ([11], [11]), ([11], [11]), ([12, 13, 11], [11, 12, 13]), ([14, 11], [11, 14]), ([15, 11], [11, 15]), ([11], [11]), ([11], [11]), ([17, 18, 11], [11, 17, 18]), ([19, 11], [11, 19]), ([20, 11], [11, 20]), ([16, 21, 11], [11, 16, 21]), ([11, 22], [11, 22])])
def glebelaw8_IsctBack.B30 : List Nat := [0, 0, 3, 7, 15, 0, 0, 96, 224, 480, 1023, 2047, 4095, 4095, 16383, 32767, 65535, 4095, 4095, 397311, 921599, 1970175, 4194303, 8388607]
theorem glebelaw8_IsctBack.tab30 : rtab .any (opsOf Try.f6 30) = glebelaw8_IsctBack.T30 := by kernel_rfl
theorem glebelaw8_IsctBack.bits30 : waitsOk glebelaw8_IsctBack.T30.2 glebelaw8_IsctBack.B30 = true := by kernel_rfl
set_option maxHeartbeats 8000000 in
set_option maxRecDepth 100000 in
theorem glebelaw8_IsctBack.calls (k : Nat) (A0 : Option Addr) (c0 : Nat) (l0 : List Int) (A1 : Option Addr) (c1 : Nat) (l1 : List Int) (r : Bool) (w : World) (hr0 : Kd.C (Kd.int .u8) w A0 l0.length l0) (hc0 : l0.length ≤ c0) (hr1 : Kd.C (Kd.int .i64) w A1 l1.length l1) (hc1 : l1.length ≤ c1) (h : glebelaw8_IsctBack.f k l0 l1 = some r) :
    Calls Try.prog 6 #[.slice A0 l0.length c0, .slice A1 l1.length c1] w fun e w' => e = .returned (.bool r) ∧ Below w.heap.size w w' := by
  have hu26 := Try.underlying26
  have HR0 := Aside0.mk hr0
  have HC0 := Aside0.mk hc0
  clear hr0 hc0
  have HR1 := Aside0.mk hr1
  have HC1 := Aside0.mk hc1
  clear hr1 hc1
  have HB := Aside0.mk (Below.refl w.heap.size w)
  have H : (if (l0.length : Int) > 255 then ((glebelaw8_awake.f k).bind fun t383 => (some t383)) else (glebelaw8_IsctBack.l0 k l1 (⟨#[]⟩ : ByteArray) l0 (l0.length : Int) 0)) = some r := h
  clear h
  by_cases c3 : (l0.length : Int) > 255
  · rw [if_pos c3] at H
    have c3b0 : decide (255 < (l0.length : Int)) = true := decide_eq_true c3
    have c3b1 : decide (255 < l0.length) = true := decide_eq_true (by omega)
    clear c3
    replace H := Option.bind_eq_some_iff.mp H
    obtain ⟨t383, A40, H⟩ := H
    replace H : (some t383) = some r := H
    have A4 := Aside0.mk A40
    clear A40
    obtain rfl := Option.some.inj H
    go_enter Try.func6, Try.ntmps6
    go_wp2_with (first | ((with_reducible refine gate_callee (f := 15) rfl ?_); refine goesL_ (some 20) rfl rfl Try.func15 (by kernel_rfl) rfl #[] rfl (by (try simp only [List.map_toArray, List.map_cons, List.map_nil]); first | done | rfl | (simp only [List.length_drop, List.length_take]; rfl)) ?_; (with_reducible refine (glebelaw8_awake.calls k  t383 _ A4.out).mono ?_); rintro e w5 ⟨rfl, hb⟩; refine ⟨_, rfl, ?_⟩; have n0_ := Aside0.mk (below_step (by repeat (first | (with_reducible first | exact HB.out | apply below_alloc | apply pw_below_drewN | apply below_drew1) | exact HB.out)) hb); clear HB; have HB := n0_; clear n0_; (try clear hb); (try clear hb2); (try clear hk); (try clear hi)))
    go_ret
    exact ⟨by first | rfl | (simp [errW_none, errW_some] <;> rfl) | (simp [*, errW_none, errW_some] <;> rfl), by repeat (first | (with_reducible first | exact HB.out | apply below_alloc | apply pw_below_drewN | apply below_drew1) | exact HB.out)⟩
  · rw [if_neg c3] at H
    have c3b0 : decide (255 < (l0.length : Int)) = false := decide_eq_false c3
    have c3b1 : decide (255 < l0.length) = false := decide_eq_false (by omega)
    clear c3
    have H' := Aside0.mk H
    clear H
    go_enter Try.func6, Try.ntmps6
    go_wp2
    go_loopg [5, 23] k (fun kq v5 v23 w' => ∃ (x5_1 : ByteArray) (x23_1 : Int), v5 = .string x5_1 ∧ v23 = .int .i64 x23_1 ∧ Aside0 (glebelaw8_IsctBack.l0 kq l1 x5_1 l0 (l0.length : Int) x23_1 = some r) ∧ Aside0 (kq ≤ k) ∧ Aside0 (Below w.heap.size w w'))
    case atStart => exact ⟨((⟨#[]⟩ : ByteArray)), (0), (by first | rfl | (simp; done) | (simp [*]; done)), (by first | rfl | (simp; done) | (simp [*]; done)), H', ⟨Nat.le_refl _⟩, ⟨by repeat (first | (with_reducible first | exact HB.out | apply below_alloc | apply pw_below_drewN | apply below_drew1) | exact HB.out)⟩⟩
    case round =>
      clear H'
      try clear c1
      try clear p2
      try clear c3
      try clear c3b0
      try clear c3b1
      obtain ⟨x5_1, x23_1, rfl, rfl, HA, HK1, HB⟩ := hrel
      cases gk with
      | zero => exact absurd HA.out (by simp [glebelaw8_IsctBack.l0])
      | succ k1 =>
        have H := HA.out
        clear HA
        simp only [glebelaw8_IsctBack.l0] at H
        by_cases c6 : x23_1 < (l0.length : Int)
        · rw [if_pos c6] at H
          have c6b0 : decide (x23_1 < (l0.length : Int)) = true := decide_eq_true c6
          clear c6
          by_cases c7 : 0 ≤ x23_1
          · rw [if_pos c7] at H
            have c7b0 : decide (0 ≤ x23_1) = true := decide_eq_true c7
            clear c7
            by_cases c8 : x23_1 < (l0.length : Int)
            · rw [if_pos c8] at H
              have c8b0 : decide (x23_1 < (l0.length : Int)) = true := decide_eq_true c8
              clear c8
              obtain ⟨y385, hy385⟩ : ∃ y_ : List Int, y_ = (([(32 + (Int.tmod (rd l0 x23_1) 95)) % 256] : List Int)) := ⟨_, rfl⟩
              replace H : (if x5_1.size + (strOfNums y385).size ≤ 9223372036854775807 then (glebelaw8_IsctBack.l0 k1 l1 (x5_1 ++ (strOfNums y385)) l0 (l0.length : Int) (wrap64 (x23_1 + 1))) else (none)) = some r := by first | (rw [hy385]; with_reducible exact H) | (have H2_ := (Option.bind_some _ _).symm.trans H; rw [hy385]; with_reducible exact H2_) | (have H2_ := (Option.bind_some _ _).symm.trans H; with_reducible exact H2_) | with_reducible exact H | (rw [hy385]; exact H) | exact H
              have Ny385 := Aside0.mk hy385
              clear hy385
              by_cases c9 : x5_1.size + (strOfNums y385).size ≤ 9223372036854775807
              · rw [if_pos c9] at H
                have c9b0 := eq_true c9
                have c9b1 : decide (x5_1.size + (strOfNums y385).size ≤ 9223372036854775807) = true := decide_eq_true c9
                try have c9b2 : (9223372036854775807 < x5_1.size + (strOfNums y385).size) = False := eq_false (Nat.not_lt.2 c9)
                have H' := Aside0.mk H
                clear H
                have p384 : 0 ≤ (x23_1 : Int) := of_decide_eq_true (by first | (with_reducible assumption) | assumption)
                have q384 : x23_1 < (l0.length : Int) := of_decide_eq_true (by first | (with_reducible assumption) | assumption)
                obtain ⟨ad384, e384, hx384_0⟩ := Kd.at_int HR0.out x23_1 p384 q384
                cases e384
                replace hx384_0 := (HB.out.cell (World.block_lt_of_cell? w _ hx384_0)).trans hx384_0
                replace p384 := eq_true p384
                replace q384 := eq_true q384
                go_wp2_with (first | ((with_reducible refine gate_dst (N := 31) rfl ?_); (try (refine gate_guard (by rfl) ?_; dsimp only)); refine Kd.R_lit (Kd.int .u8) _ 5 ?hg (N := 31) ?hd (xs := ([(32 + (Int.tmod (rd l0 x23_1) 95)) % 256] : List Int)) (inner := [.int .u8 ((32 + (Int.tmod (rd l0 x23_1) 95)) % 256)]) (ok := fun _ => True) (okp := fun _ => True) ?hr ?hp (fun _ hk => hk) trivial (Below.refl _ _) (Nat.le_refl _) (by simp) ?_; (case hd => rfl); (case hg => rfl); (case hr => first | (go_simp; done) | (go_simp; rfl)); (case hp => exact (Reps.one (show Kd.M (Kd.int .u8) _ _ _ ((32 + (Int.tmod (rd l0 x23_1) 95)) % 256) [.int .u8 ((32 + (Int.tmod (rd l0 x23_1) 95)) % 256)] from rfl) (Reps.none _ _))); intro v386 w10 ho11 hb hg_ hnew_; clear hg_ hnew_; (first | rw [← Ny385.out] at ho11 | (simp only [Int.reduceToNat] at ho11; rw [← Ny385.out] at ho11)); have n0_ := Aside0.mk (Kd.R_lower ho11 (below_size (by repeat (first | (with_reducible first | exact HB.out | apply below_alloc | apply pw_below_drewN | apply below_drew1) | exact HB.out)))); have n1_ := Aside0.mk (below_step (by repeat (first | (with_reducible first | exact HB.out | apply below_alloc | apply pw_below_drewN | apply below_drew1) | exact HB.out)) hb); clear HB; have HO387 := n0_; have HB := n1_; clear n0_ n1_; clear hb ho11; have hcv12 := own_string (P := Try.prog) Try.underlying29 Try.underlying5 Try.underlying9 (Kd.own_of_R HO387.out)))
                go_roundg k1
                case measure => have := HK1.out; omega
                case rel => exact ⟨(x5_1 ++ (strOfNums y385)), (wrap64 (x23_1 + 1)), (by first | rfl | (simp; done) | (simp [*]; done)), (by first | rfl | (simp; done) | (simp [*]; done)), H', ⟨by have := HK1.out; omega⟩, ⟨by repeat (first | (with_reducible first | exact HB.out | apply below_alloc | apply pw_below_drewN | apply below_drew1) | exact HB.out)⟩⟩
              · rw [if_neg c9] at H
                exact absurd H (by simp)
            · rw [if_neg c8] at H
              exact absurd H (by simp)
          · rw [if_neg c7] at H
            exact absurd H (by simp)
        · rw [if_neg c6] at H
          have c6b0 : decide (x23_1 < (l0.length : Int)) = false := decide_eq_false c6
          clear c6
          replace H := Option.bind_eq_some_iff.mp H
          obtain ⟨t388, A130, H⟩ := H
          replace H : (if 2 + t388.size ≤ 9223372036854775807 then (if 2 + t388.size + 1 ≤ 9223372036854775807 then ((isct_Tokens.f k1 (bytesOf (((⟨#[97, 32]⟩ : ByteArray) ++ t388) ++ (⟨#[98]⟩ : ByteArray)))).bind fun bt392 => (if bt392.2.1 = 0 then (if (bt392.1.length : Int) = 3 then (if 1 < (bt392.1.length : Int) then (if ((rd_T33 bt392.1 1).f0) = 3 then (if ((rd_T33 bt392.1 1).f1).toList = x5_1.toList then (if ((rd_T33 bt392.1 1).f2) = 2 then (if 2 < (bt392.1.length : Int) then (glebelaw8_IsctBack.j1 k1 l1 (((rd_T33 bt392.1 2).f1).toList != ([98] : List UInt8))) else (none)) else (glebelaw8_IsctBack.j1 k1 l1 true)) else (glebelaw8_IsctBack.j1 k1 l1 true)) else (glebelaw8_IsctBack.j1 k1 l1 true)) else (none)) else (glebelaw8_IsctBack.j1 k1 l1 true)) else (glebelaw8_IsctBack.j1 k1 l1 true))) else (none)) else (none)) = some r := H
          have A13 := Aside0.mk A130
          clear A130
          by_cases c14 : 2 + t388.size ≤ 9223372036854775807
          · rw [if_pos c14] at H
            have c14b0 := eq_true c14
            have c14b1 : decide (2 + t388.size ≤ 9223372036854775807) = true := decide_eq_true c14
            try have c14b2 : (9223372036854775807 < 2 + t388.size) = False := eq_false (Nat.not_lt.2 c14)
            by_cases c15 : 2 + t388.size + 1 ≤ 9223372036854775807
            · rw [if_pos c15] at H
              have c15b0 := eq_true c15
              have c15b1 : decide (2 + t388.size + 1 ≤ 9223372036854775807) = true := decide_eq_true c15
              try have c15b2 : (9223372036854775807 < 2 + t388.size + 1) = False := eq_false (Nat.not_lt.2 c15)
              obtain ⟨y389, hy389⟩ : ∃ y_ : List Int, y_ = (bytesOf (((⟨#[97, 32]⟩ : ByteArray) ++ t388) ++ (⟨#[98]⟩ : ByteArray))) := ⟨_, rfl⟩
              replace H : ((isct_Tokens.f k1 y389).bind fun bt392 => (if bt392.2.1 = 0 then (if (bt392.1.length : Int) = 3 then (if 1 < (bt392.1.length : Int) then (if ((rd_T33 bt392.1 1).f0) = 3 then (if ((rd_T33 bt392.1 1).f1).toList = x5_1.toList then (if ((rd_T33 bt392.1 1).f2) = 2 then (if 2 < (bt392.1.length : Int) then (glebelaw8_IsctBack.j1 k1 l1 (((rd_T33 bt392.1 2).f1).toList != ([98] : List UInt8))) else (none)) else (glebelaw8_IsctBack.j1 k1 l1 true)) else (glebelaw8_IsctBack.j1 k1 l1 true)) else (glebelaw8_IsctBack.j1 k1 l1 true)) else (none)) else (glebelaw8_IsctBack.j1 k1 l1 true)) else (glebelaw8_IsctBack.j1 k1 l1 true))) = some r := by first | (rw [hy389]; with_reducible exact H) | (have H2_ := (Option.bind_some _ _).symm.trans H; rw [hy389]; with_reducible exact H2_) | (have H2_ := (Option.bind_some _ _).symm.trans H; with_reducible exact H2_) | with_reducible exact H | (rw [hy389]; exact H) | exact H
              have Ny389 := Aside0.mk hy389
              clear hy389
              replace H := Option.bind_eq_some_iff.mp H
              obtain ⟨⟨t392, t395, t396⟩, A160, H⟩ := H
              replace H : (if t395 = 0 then (if (t392.length : Int) = 3 then (if 1 < (t392.length : Int) then (if ((rd_T33 t392 1).f0) = 3 then (if ((rd_T33 t392 1).f1).toList = x5_1.toList then (if ((rd_T33 t392 1).f2) = 2 then (if 2 < (t392.length : Int) then (glebelaw8_IsctBack.j1 k1 l1 (((rd_T33 t392 2).f1).toList != ([98] : List UInt8))) else (none)) else (glebelaw8_IsctBack.j1 k1 l1 true)) else (glebelaw8_IsctBack.j1 k1 l1 true)) else (glebelaw8_IsctBack.j1 k1 l1 true)) else (none)) else (glebelaw8_IsctBack.j1 k1 l1 true)) else (glebelaw8_IsctBack.j1 k1 l1 true)) = some r := H
              have A16 := Aside0.mk A160
              clear A160
              have HC17 := Aside0.mk H
              clear H
              go_upto_region 10 with (first | ((with_reducible refine gate_callee (f := 19) rfl ?_); refine goesL_ (some 37) rfl rfl Try.func19 (by kernel_rfl) rfl #[.string x5_1] rfl (by (try simp only [List.map_toArray, List.map_cons, List.map_nil]); first | done | rfl | (simp only [List.length_drop, List.length_take]; rfl)) ?_; (with_reducible refine (isct_Quote.calls k1 x5_1 t388 _ A13.out).mono ?_); rintro e w18 ⟨rfl, hb⟩; refine ⟨_, rfl, ?_⟩; have n0_ := Aside0.mk (below_step (by repeat (first | (with_reducible first | exact HB.out | apply below_alloc | apply pw_below_drewN | apply below_drew1) | exact HB.out)) hb); clear HB; have HB := n0_; clear n0_; (try clear hb); (try clear hb2); (try clear hk); (try clear hi)) | ((with_reducible refine gate_dst (N := 40) rfl ?_); (try (refine gate_guard (by rfl) ?_; dsimp only)); refine XW.V_bytes _ 5 rfl (N := 40) rfl 9 29 _ rfl (((⟨#[97, 32]⟩ : ByteArray) ++ t388) ++ (⟨#[98]⟩ : ByteArray)) rfl Try.underlying9 Try.underlying29 Try.underlying5 (by have h_ : 2 + t388.size + 1 ≤ 9223372036854775807 := of_decide_eq_true (by first | (with_reducible assumption) | assumption); first | exact h_ | (simp only [ByteArray.size_append]; exact h_)) (ok := (fun _ => True)) (fun k_ hk => trivial) (Below.refl _ _) (Nat.le_refl _) ?_; intro v390 w19 ho20 hb hg_ hnew_; clear hg_ hnew_; (first | rw [← Ny389.out] at ho20 | (simp only [Int.reduceToNat] at ho20; rw [← Ny389.out] at ho20)); have n0_ := Aside0.mk (Kd.V_lower ho20 (below_size (by repeat (first | (with_reducible first | exact HB.out | apply below_alloc | apply pw_below_drewN | apply below_drew1) | exact HB.out)))); have n1_ := Aside0.mk (below_step (by repeat (first | (with_reducible first | exact HB.out | apply below_alloc | apply pw_below_drewN | apply below_drew1) | exact HB.out)) hb); clear HB; have HO391 := n0_; have HB := n1_; clear n0_ n1_; clear hb ho20; obtain ⟨Ao21, co21, eo21⟩ := Kd.V_slice HO391.out; subst eo21) | ((with_reducible refine gate_callee (f := 14) rfl ?_); refine goesL_ (some 41) rfl rfl Try.func14 (by kernel_rfl) rfl #[.slice Ao21 y389.length co21] rfl (by (try simp only [List.map_toArray, List.map_cons, List.map_nil]); first | done | rfl | (simp only [List.length_drop, List.length_take]; rfl)) ?_; (with_reducible refine (isct_Tokens.calls k1 _ _ y389 t392 t395 t396 _ ?side1 ?side2 A16.out).mono ?_); (case side1 => repeat (first | exact (Kd.V_reads' HO391.out).2.2 | (with_reducible refine Kd.C_alloc ?_ _) | (with_reducible refine Kd.C_drewN ?_ _) | (with_reducible refine Kd.C_drew ?_))); (case side2 => exact (Kd.V_reads' HO391.out).2.1); rintro e w22 ⟨v393, rfl, ho0, hb⟩; refine ⟨_, rfl, ?_⟩; have n0_ := Aside0.mk (Kd.V_elder' (by (with_reducible repeat (first | apply Kd.V_alloc | apply Kd.V_drewN | apply Kd.V_drew)); exact HO391.out) (Kd.R_base ho0) hb); have n1_ := Aside0.mk (Kd.R_lower ho0 (below_size (by repeat (first | (with_reducible first | exact HB.out | apply below_alloc | apply pw_below_drewN | apply below_drew1) | exact HB.out)))); have n2_ := Aside0.mk (below_step (by repeat (first | (with_reducible first | exact HB.out | apply below_alloc | apply pw_below_drewN | apply below_drew1) | exact HB.out)) hb); clear HO391; clear HB; have HO391 := n0_; have HO394 := n1_; have HB := n2_; clear n0_ n1_ n2_; (try clear hb); (try clear hb2); (try clear hk); (try clear hi); (try clear ho0)) | ((with_reducible refine gate_dst (N := 9) rfl ?_); (try (refine gate_guard (by rfl) ?_; dsimp only)); refine box_event ?hg (N := 9) ?hd (cs := #[.int .i64 0, .int .i64 0]) (t := 26) ?hr ?_; (case hd => rfl); (case hg => rfl); (case hr => first | (go_simp; done) | (go_simp; rfl)); intro gb397 hg w23 hbox hb; have n0_ := Aside0.mk (Kd.V_below (Kd.V_elderB (by (with_reducible repeat (first | apply Kd.V_alloc | apply Kd.V_drewN | apply Kd.V_drew)); exact HO391.out) gb397 (Nat.le_of_eq hg.symm)) hb); have n1_ := Aside0.mk (Kd.R_below (by (with_reducible repeat (first | apply Kd.R_alloc | apply Kd.R_drewN | apply Kd.R_drew)); exact HO394.out) hb); have n2_ := Aside0.mk (below_step (by repeat (first | (with_reducible first | exact HB.out | apply below_alloc | apply pw_below_drewN | apply below_drew1) | exact HB.out)) hb); have n3_ := Aside0.mk (hbox); have n4_ := Aside0.mk ((by rw [hg]; exact (below_size (by repeat (first | (with_reducible first | exact HB.out | apply below_alloc | apply pw_below_drewN | apply below_drew1) | exact HB.out))) : w.heap.size ≤ gb397)); have n5_ := Aside0.mk ((by rw [hg]; exact (below_size (by repeat (first | (with_reducible first | exact HB.out | apply below_alloc | apply pw_below_drewN | apply below_drew1) | exact HB.out))) : w.heap.size ≤ gb397)); clear HO391; clear HO394; clear HB; have HO391 := n0_; have HO394 := n1_; have HB := n2_; have BK397 := n3_; have GW397 := n4_; have GE397 := n5_; clear n0_ n1_ n2_ n3_ n4_ n5_; clear hb hbox hg; have hcz24_0 : w23.cell? ⟨gb397, 0, none⟩ = some (.int .i64 0) := (blk_cell BK397.out 0).trans rfl; have hcz24_1 : w23.cell? ⟨gb397, 1, none⟩ = some (.int .i64 0) := (blk_cell BK397.out 1).trans rfl; have hfz24_0 := blk_frozen BK397.out 0; have hfz24_1 := blk_frozen BK397.out 1))
              (try simp only [Act.put, List.setIfInBounds_toArray, List.set_cons_zero, List.set_cons_succ])
              go_cut [80] (fun v80 wc => ∃ (kq : Nat) (x80_16 : Bool), v80 = .bool x80_16 ∧ Aside0 (glebelaw8_IsctBack.j1 kq l1 x80_16 = some r) ∧ Aside0 (kq ≤ k1) ∧ Aside0 (wc.heap[gb397]? = some (.cells #[.int .i64 t395, .int .i64 t396] 26 (0, 0))) ∧ Aside0 (Below w.heap.size w wc))
              case first =>
                have H := HC17.out
                clear HC17
                by_cases c25 : t395 = 0
                · rw [if_pos c25] at H
                  have c25b0 : (t395 == 0) = true := beq_iff_eq.mpr c25
                  have c25b1 : (t395 != 0) = false := bne_eq_false_iff_eq.mpr c25
                  clear c25
                  (first | rw [c25b0] | (simp only [i64_w, i32_w]; rw [c25b0]) | skip)
                  by_cases c26 : (t392.length : Int) = 3
                  · rw [if_pos c26] at H
                    have c26b0 : ((t392.length : Int) == 3) = true := beq_iff_eq.mpr c26
                    have c26b1 : ((t392.length : Int) != 3) = false := bne_eq_false_iff_eq.mpr c26
                    clear c26
                    by_cases c27 : 1 < (t392.length : Int)
                    · rw [if_pos c27] at H
                      have c27b0 : decide (1 < (t392.length : Int)) = true := decide_eq_true c27
                      have c27b1 : decide (1 < t392.length) = true := decide_eq_true (by omega)
                      clear c27
                      by_cases c28 : ((rd_T33 t392 1).f0) = 3
                      · rw [if_pos c28] at H
                        have c28b0 : (((rd_T33 t392 1).f0) == 3) = true := beq_iff_eq.mpr c28
                        have c28b1 : (((rd_T33 t392 1).f0) != 3) = false := bne_eq_false_iff_eq.mpr c28
                        clear c28
                        by_cases c29 : ((rd_T33 t392 1).f1).toList = x5_1.toList
                        · rw [if_pos c29] at H
                          have c29b0 : (((rd_T33 t392 1).f1).toList == x5_1.toList) = true := beq_iff_eq.mpr c29
                          have c29b1 : (((rd_T33 t392 1).f1).toList != x5_1.toList) = false := bne_eq_false_iff_eq.mpr c29
                          clear c29
                          by_cases c30 : ((rd_T33 t392 1).f2) = 2
                          · rw [if_pos c30] at H
                            have c30b0 : (((rd_T33 t392 1).f2) == 2) = true := beq_iff_eq.mpr c30
                            have c30b1 : (((rd_T33 t392 1).f2) != 2) = false := bne_eq_false_iff_eq.mpr c30
                            clear c30
                            by_cases c31 : 2 < (t392.length : Int)
                            · rw [if_pos c31] at H
                              have c31b0 : decide (2 < (t392.length : Int)) = true := decide_eq_true c31
                              have c31b1 : decide (2 < t392.length) = true := decide_eq_true (by omega)
                              clear c31
                              have H' := Aside0.mk H
                              clear H
                              have hcz32_0 : w23.cell? ⟨gb397, 0, none⟩ = some (.int .i64 0) := (blk_cell BK397.out 0).trans rfl
                              have hcz32_1 : w23.cell? ⟨gb397, 1, none⟩ = some (.int .i64 0) := (blk_cell BK397.out 1).trans rfl
                              have hfz32_0 := blk_frozen BK397.out 0
                              have hfz32_1 := blk_frozen BK397.out 1
                              obtain ⟨Ao33, co33, eo33⟩ := Kd.R_slice HO394.out
                              subst eo33
                              have p398 : 0 ≤ (1 : Int) := (by omega)
                              have q398 : 1 < (t392.length : Int) := of_decide_eq_true (by first | (with_reducible assumption) | assumption)
                              obtain ⟨ad398, e398, hx398_0, hx398_1, hx398_2⟩ := at_T33 (Kd.R_reads' HO394.out).2.2 1 p398 q398
                              cases e398
                              (try simp only [show (1 : Int).toNat = 1 from rfl, Nat.reduceMul, Nat.reduceEqDiff, Go.Addr.add, ↓reduceIte] at hx398_0)
                              (try simp only [show (1 : Int).toNat = 1 from rfl, Nat.reduceMul, Nat.reduceEqDiff, Go.Addr.add, ↓reduceIte] at hx398_1)
                              (try simp only [show (1 : Int).toNat = 1 from rfl, Nat.reduceMul, Nat.reduceEqDiff, Go.Addr.add, ↓reduceIte] at hx398_2)
                              have qi398 : (1 < t392.length) = True := eq_true (by omega)
                              (try rw [show ((1 : Int)).toNat = 1 from rfl] at hx398_0)
                              (try rw [show 1 * 3 = 3 from rfl] at hx398_0)
                              (try rw [show ((1 : Int)).toNat = 1 from rfl] at hx398_1)
                              (try rw [show 1 * 3 = 3 from rfl] at hx398_1)
                              (try rw [show ((1 : Int)).toNat = 1 from rfl] at hx398_2)
                              (try rw [show 1 * 3 = 3 from rfl] at hx398_2)
                              have hn398_0 : ad398.block ≠ gb397 := Kd.own_blk (Kd.R_ne HO394.out BK397.out (by decide))
                              have hn398_1 : ad398.block ≠ gb397 := Kd.own_blk (Kd.R_ne HO394.out BK397.out (by decide))
                              replace hx398_0 := (cell_far (p := ⟨gb397, 0, none⟩) (by first | (rw [add_block]; exact hn398_0) | (show (Addr.add _ _).block ≠ _; rw [add_block]; exact hn398_0) | exact hn398_0) (.int .i64 t395)).trans hx398_0
                              replace hx398_1 := (cell_far (p := ⟨gb397, 0, none⟩) (by first | (rw [add_block]; exact hn398_0) | (show (Addr.add _ _).block ≠ _; rw [add_block]; exact hn398_0) | exact hn398_0) (.int .i64 t395)).trans hx398_1
                              replace hx398_2 := (cell_far (p := ⟨gb397, 0, none⟩) (by first | (rw [add_block]; exact hn398_0) | (show (Addr.add _ _).block ≠ _; rw [add_block]; exact hn398_0) | exact hn398_0) (.int .i64 t395)).trans hx398_2
                              replace hx398_0 := (cell_far (p := ⟨gb397, 1, none⟩) (by first | (rw [add_block]; exact hn398_1) | (show (Addr.add _ _).block ≠ _; rw [add_block]; exact hn398_1) | exact hn398_1) (.int .i64 t396)).trans hx398_0
                              replace hx398_1 := (cell_far (p := ⟨gb397, 1, none⟩) (by first | (rw [add_block]; exact hn398_1) | (show (Addr.add _ _).block ≠ _; rw [add_block]; exact hn398_1) | exact hn398_1) (.int .i64 t396)).trans hx398_1
                              replace hx398_2 := (cell_far (p := ⟨gb397, 1, none⟩) (by first | (rw [add_block]; exact hn398_1) | (show (Addr.add _ _).block ≠ _; rw [add_block]; exact hn398_1) | exact hn398_1) (.int .i64 t396)).trans hx398_2
                              clear hn398_0
                              clear hn398_1
                              replace p398 := eq_true p398
                              replace q398 := eq_true q398
                              have p399 : 0 ≤ (1 : Int) := (by omega)
                              have q399 : 1 < (t392.length : Int) := of_decide_eq_true (by first | (with_reducible assumption) | assumption)
                              obtain ⟨ad399, e399, hx399_0, hx399_1, hx399_2⟩ := at_T33 (Kd.R_reads' HO394.out).2.2 1 p399 q399
                              obtain rfl : ad398 = ad399 := (by injection e399)
                              (try simp only [show (1 : Int).toNat = 1 from rfl, Nat.reduceMul, Nat.reduceEqDiff, Go.Addr.add, ↓reduceIte] at hx399_0)
                              (try simp only [show (1 : Int).toNat = 1 from rfl, Nat.reduceMul, Nat.reduceEqDiff, Go.Addr.add, ↓reduceIte] at hx399_1)
                              (try simp only [show (1 : Int).toNat = 1 from rfl, Nat.reduceMul, Nat.reduceEqDiff, Go.Addr.add, ↓reduceIte] at hx399_2)
                              have qi399 : (1 < t392.length) = True := eq_true (by omega)
                              (try rw [show ((1 : Int)).toNat = 1 from rfl] at hx399_0)
                              (try rw [show 1 * 3 = 3 from rfl] at hx399_0)
                              (try rw [show ((1 : Int)).toNat = 1 from rfl] at hx399_1)
                              (try rw [show 1 * 3 = 3 from rfl] at hx399_1)
                              (try rw [show ((1 : Int)).toNat = 1 from rfl] at hx399_2)
                              (try rw [show 1 * 3 = 3 from rfl] at hx399_2)
                              have hn399_0 : ad398.block ≠ gb397 := Kd.own_blk (Kd.R_ne HO394.out BK397.out (by decide))
                              have hn399_1 : ad398.block ≠ gb397 := Kd.own_blk (Kd.R_ne HO394.out BK397.out (by decide))
                              replace hx399_0 := (cell_far (p := ⟨gb397, 0, none⟩) (by first | (rw [add_block]; exact hn399_0) | (show (Addr.add _ _).block ≠ _; rw [add_block]; exact hn399_0) | exact hn399_0) (.int .i64 t395)).trans hx399_0
                              replace hx399_1 := (cell_far (p := ⟨gb397, 0, none⟩) (by first | (rw [add_block]; exact hn399_0) | (show (Addr.add _ _).block ≠ _; rw [add_block]; exact hn399_0) | exact hn399_0) (.int .i64 t395)).trans hx399_1
                              replace hx399_2 := (cell_far (p := ⟨gb397, 0, none⟩) (by first | (rw [add_block]; exact hn399_0) | (show (Addr.add _ _).block ≠ _; rw [add_block]; exact hn399_0) | exact hn399_0) (.int .i64 t395)).trans hx399_2
                              replace hx399_0 := (cell_far (p := ⟨gb397, 1, none⟩) (by first | (rw [add_block]; exact hn399_1) | (show (Addr.add _ _).block ≠ _; rw [add_block]; exact hn399_1) | exact hn399_1) (.int .i64 t396)).trans hx399_0
                              replace hx399_1 := (cell_far (p := ⟨gb397, 1, none⟩) (by first | (rw [add_block]; exact hn399_1) | (show (Addr.add _ _).block ≠ _; rw [add_block]; exact hn399_1) | exact hn399_1) (.int .i64 t396)).trans hx399_1
                              replace hx399_2 := (cell_far (p := ⟨gb397, 1, none⟩) (by first | (rw [add_block]; exact hn399_1) | (show (Addr.add _ _).block ≠ _; rw [add_block]; exact hn399_1) | exact hn399_1) (.int .i64 t396)).trans hx399_2
                              clear hn399_0
                              clear hn399_1
                              replace p399 := eq_true p399
                              replace q399 := eq_true q399
                              have p400 : 0 ≤ (1 : Int) := (by omega)
                              have q400 : 1 < (t392.length : Int) := of_decide_eq_true (by first | (with_reducible assumption) | assumption)
                              obtain ⟨ad400, e400, hx400_0, hx400_1, hx400_2⟩ := at_T33 (Kd.R_reads' HO394.out).2.2 1 p400 q400
                              obtain rfl : ad398 = ad400 := (by injection e400)
                              (try simp only [show (1 : Int).toNat = 1 from rfl, Nat.reduceMul, Nat.reduceEqDiff, Go.Addr.add, ↓reduceIte] at hx400_0)
                              (try simp only [show (1 : Int).toNat = 1 from rfl, Nat.reduceMul, Nat.reduceEqDiff, Go.Addr.add, ↓reduceIte] at hx400_1)
                              (try simp only [show (1 : Int).toNat = 1 from rfl, Nat.reduceMul, Nat.reduceEqDiff, Go.Addr.add, ↓reduceIte] at hx400_2)
                              have qi400 : (1 < t392.length) = True := eq_true (by omega)
                              (try rw [show ((1 : Int)).toNat = 1 from rfl] at hx400_0)
                              (try rw [show 1 * 3 = 3 from rfl] at hx400_0)
                              (try rw [show ((1 : Int)).toNat = 1 from rfl] at hx400_1)
                              (try rw [show 1 * 3 = 3 from rfl] at hx400_1)
                              (try rw [show ((1 : Int)).toNat = 1 from rfl] at hx400_2)
                              (try rw [show 1 * 3 = 3 from rfl] at hx400_2)
                              have hn400_0 : ad398.block ≠ gb397 := Kd.own_blk (Kd.R_ne HO394.out BK397.out (by decide))
                              have hn400_1 : ad398.block ≠ gb397 := Kd.own_blk (Kd.R_ne HO394.out BK397.out (by decide))
                              replace hx400_0 := (cell_far (p := ⟨gb397, 0, none⟩) (by first | (rw [add_block]; exact hn400_0) | (show (Addr.add _ _).block ≠ _; rw [add_block]; exact hn400_0) | exact hn400_0) (.int .i64 t395)).trans hx400_0
                              replace hx400_1 := (cell_far (p := ⟨gb397, 0, none⟩) (by first | (rw [add_block]; exact hn400_0) | (show (Addr.add _ _).block ≠ _; rw [add_block]; exact hn400_0) | exact hn400_0) (.int .i64 t395)).trans hx400_1
                              replace hx400_2 := (cell_far (p := ⟨gb397, 0, none⟩) (by first | (rw [add_block]; exact hn400_0) | (show (Addr.add _ _).block ≠ _; rw [add_block]; exact hn400_0) | exact hn400_0) (.int .i64 t395)).trans hx400_2
                              replace hx400_0 := (cell_far (p := ⟨gb397, 1, none⟩) (by first | (rw [add_block]; exact hn400_1) | (show (Addr.add _ _).block ≠ _; rw [add_block]; exact hn400_1) | exact hn400_1) (.int .i64 t396)).trans hx400_0
                              replace hx400_1 := (cell_far (p := ⟨gb397, 1, none⟩) (by first | (rw [add_block]; exact hn400_1) | (show (Addr.add _ _).block ≠ _; rw [add_block]; exact hn400_1) | exact hn400_1) (.int .i64 t396)).trans hx400_1
                              replace hx400_2 := (cell_far (p := ⟨gb397, 1, none⟩) (by first | (rw [add_block]; exact hn400_1) | (show (Addr.add _ _).block ≠ _; rw [add_block]; exact hn400_1) | exact hn400_1) (.int .i64 t396)).trans hx400_2
                              clear hn400_0
                              clear hn400_1
                              replace p400 := eq_true p400
                              replace q400 := eq_true q400
                              have p401 : 0 ≤ (2 : Int) := (by omega)
                              have q401 : 2 < (t392.length : Int) := of_decide_eq_true (by first | (with_reducible assumption) | assumption)
                              obtain ⟨ad401, e401, hx401_0, hx401_1, hx401_2⟩ := at_T33 (Kd.R_reads' HO394.out).2.2 2 p401 q401
                              obtain rfl : ad398 = ad401 := (by injection e401)
                              (try simp only [show (2 : Int).toNat = 2 from rfl, Nat.reduceMul, Nat.reduceEqDiff, Go.Addr.add, ↓reduceIte] at hx401_0)
                              (try simp only [show (2 : Int).toNat = 2 from rfl, Nat.reduceMul, Nat.reduceEqDiff, Go.Addr.add, ↓reduceIte] at hx401_1)
                              (try simp only [show (2 : Int).toNat = 2 from rfl, Nat.reduceMul, Nat.reduceEqDiff, Go.Addr.add, ↓reduceIte] at hx401_2)
                              have qi401 : (2 < t392.length) = True := eq_true (by omega)
                              (try rw [show ((2 : Int)).toNat = 2 from rfl] at hx401_0)
                              (try rw [show 2 * 3 = 6 from rfl] at hx401_0)
                              (try rw [show ((2 : Int)).toNat = 2 from rfl] at hx401_1)
                              (try rw [show 2 * 3 = 6 from rfl] at hx401_1)
                              (try rw [show ((2 : Int)).toNat = 2 from rfl] at hx401_2)
                              (try rw [show 2 * 3 = 6 from rfl] at hx401_2)
                              have hn401_0 : ad398.block ≠ gb397 := Kd.own_blk (Kd.R_ne HO394.out BK397.out (by decide))
                              have hn401_1 : ad398.block ≠ gb397 := Kd.own_blk (Kd.R_ne HO394.out BK397.out (by decide))
                              replace hx401_0 := (cell_far (p := ⟨gb397, 0, none⟩) (by first | (rw [add_block]; exact hn401_0) | (show (Addr.add _ _).block ≠ _; rw [add_block]; exact hn401_0) | exact hn401_0) (.int .i64 t395)).trans hx401_0
                              replace hx401_1 := (cell_far (p := ⟨gb397, 0, none⟩) (by first | (rw [add_block]; exact hn401_0) | (show (Addr.add _ _).block ≠ _; rw [add_block]; exact hn401_0) | exact hn401_0) (.int .i64 t395)).trans hx401_1
                              replace hx401_2 := (cell_far (p := ⟨gb397, 0, none⟩) (by first | (rw [add_block]; exact hn401_0) | (show (Addr.add _ _).block ≠ _; rw [add_block]; exact hn401_0) | exact hn401_0) (.int .i64 t395)).trans hx401_2
                              replace hx401_0 := (cell_far (p := ⟨gb397, 1, none⟩) (by first | (rw [add_block]; exact hn401_1) | (show (Addr.add _ _).block ≠ _; rw [add_block]; exact hn401_1) | exact hn401_1) (.int .i64 t396)).trans hx401_0
                              replace hx401_1 := (cell_far (p := ⟨gb397, 1, none⟩) (by first | (rw [add_block]; exact hn401_1) | (show (Addr.add _ _).block ≠ _; rw [add_block]; exact hn401_1) | exact hn401_1) (.int .i64 t396)).trans hx401_1
                              replace hx401_2 := (cell_far (p := ⟨gb397, 1, none⟩) (by first | (rw [add_block]; exact hn401_1) | (show (Addr.add _ _).block ≠ _; rw [add_block]; exact hn401_1) | exact hn401_1) (.int .i64 t396)).trans hx401_2
                              clear hn401_0
                              clear hn401_1
                              replace p401 := eq_true p401
                              replace q401 := eq_true q401
                              go_wp2
                              go_meet
                              case rel => exact ⟨_, ((((rd_T33 t392 2).f1).toList != ([98] : List UInt8))), (by first | rfl | (simp; done) | (simp [*]; done)), H', ⟨by have := HK1.out; first | omega | exact Nat.le_refl _⟩, ⟨by (with_reducible repeat (first | refine blk_drewN ?_ _ | refine blk_drew ?_ | refine blk_alloc ?_ _)); refine blk_put (cs := #[.int .i64 t395, .int .i64 0]) ?_ 1 _ rfl; (with_reducible repeat (first | refine blk_drewN ?_ _ | refine blk_drew ?_ | refine blk_alloc ?_ _)); refine blk_put (cs := #[.int .i64 0, .int .i64 0]) ?_ 0 _ rfl; (with_reducible repeat (first | refine blk_drewN ?_ _ | refine blk_drew ?_ | refine blk_alloc ?_ _)); exact BK397.out⟩, ⟨by repeat (first | (with_reducible first | exact HB.out | apply below_alloc | apply pw_below_drewN | apply below_drew1 | refine below_set ?_ GE397.out) | exact HB.out)⟩⟩
                            · rw [if_neg c31] at H
                              exact absurd H (by simp)
                          · rw [if_neg c30] at H
                            have c30b0 : (((rd_T33 t392 1).f2) == 2) = false := beq_eq_false_iff_ne.mpr c30
                            have c30b1 : (((rd_T33 t392 1).f2) != 2) = true := bne_iff_ne.mpr c30
                            have H' := Aside0.mk H
                            clear H
                            have hcz34_0 : w23.cell? ⟨gb397, 0, none⟩ = some (.int .i64 0) := (blk_cell BK397.out 0).trans rfl
                            have hcz34_1 : w23.cell? ⟨gb397, 1, none⟩ = some (.int .i64 0) := (blk_cell BK397.out 1).trans rfl
                            have hfz34_0 := blk_frozen BK397.out 0
                            have hfz34_1 := blk_frozen BK397.out 1
                            obtain ⟨Ao35, co35, eo35⟩ := Kd.R_slice HO394.out
                            subst eo35
                            have p398 : 0 ≤ (1 : Int) := (by omega)
                            have q398 : 1 < (t392.length : Int) := of_decide_eq_true (by first | (with_reducible assumption) | assumption)
                            obtain ⟨ad398, e398, hx398_0, hx398_1, hx398_2⟩ := at_T33 (Kd.R_reads' HO394.out).2.2 1 p398 q398
                            cases e398
                            (try simp only [show (1 : Int).toNat = 1 from rfl, Nat.reduceMul, Nat.reduceEqDiff, Go.Addr.add, ↓reduceIte] at hx398_0)
                            (try simp only [show (1 : Int).toNat = 1 from rfl, Nat.reduceMul, Nat.reduceEqDiff, Go.Addr.add, ↓reduceIte] at hx398_1)
                            (try simp only [show (1 : Int).toNat = 1 from rfl, Nat.reduceMul, Nat.reduceEqDiff, Go.Addr.add, ↓reduceIte] at hx398_2)
                            have qi398 : (1 < t392.length) = True := eq_true (by omega)
                            (try rw [show ((1 : Int)).toNat = 1 from rfl] at hx398_0)
                            (try rw [show 1 * 3 = 3 from rfl] at hx398_0)
                            (try rw [show ((1 : Int)).toNat = 1 from rfl] at hx398_1)
                            (try rw [show 1 * 3 = 3 from rfl] at hx398_1)
                            (try rw [show ((1 : Int)).toNat = 1 from rfl] at hx398_2)
                            (try rw [show 1 * 3 = 3 from rfl] at hx398_2)
                            have hn398_0 : ad398.block ≠ gb397 := Kd.own_blk (Kd.R_ne HO394.out BK397.out (by decide))
                            have hn398_1 : ad398.block ≠ gb397 := Kd.own_blk (Kd.R_ne HO394.out BK397.out (by decide))
                            replace hx398_0 := (cell_far (p := ⟨gb397, 0, none⟩) (by first | (rw [add_block]; exact hn398_0) | (show (Addr.add _ _).block ≠ _; rw [add_block]; exact hn398_0) | exact hn398_0) (.int .i64 t395)).trans hx398_0
                            replace hx398_1 := (cell_far (p := ⟨gb397, 0, none⟩) (by first | (rw [add_block]; exact hn398_0) | (show (Addr.add _ _).block ≠ _; rw [add_block]; exact hn398_0) | exact hn398_0) (.int .i64 t395)).trans hx398_1
                            replace hx398_2 := (cell_far (p := ⟨gb397, 0, none⟩) (by first | (rw [add_block]; exact hn398_0) | (show (Addr.add _ _).block ≠ _; rw [add_block]; exact hn398_0) | exact hn398_0) (.int .i64 t395)).trans hx398_2
                            replace hx398_0 := (cell_far (p := ⟨gb397, 1, none⟩) (by first | (rw [add_block]; exact hn398_1) | (show (Addr.add _ _).block ≠ _; rw [add_block]; exact hn398_1) | exact hn398_1) (.int .i64 t396)).trans hx398_0
                            replace hx398_1 := (cell_far (p := ⟨gb397, 1, none⟩) (by first | (rw [add_block]; exact hn398_1) | (show (Addr.add _ _).block ≠ _; rw [add_block]; exact hn398_1) | exact hn398_1) (.int .i64 t396)).trans hx398_1
                            replace hx398_2 := (cell_far (p := ⟨gb397, 1, none⟩) (by first | (rw [add_block]; exact hn398_1) | (show (Addr.add _ _).block ≠ _; rw [add_block]; exact hn398_1) | exact hn398_1) (.int .i64 t396)).trans hx398_2
                            clear hn398_0
                            clear hn398_1
                            replace p398 := eq_true p398
                            replace q398 := eq_true q398
                            have p399 : 0 ≤ (1 : Int) := (by omega)
                            have q399 : 1 < (t392.length : Int) := of_decide_eq_true (by first | (with_reducible assumption) | assumption)
                            obtain ⟨ad399, e399, hx399_0, hx399_1, hx399_2⟩ := at_T33 (Kd.R_reads' HO394.out).2.2 1 p399 q399
                            obtain rfl : ad398 = ad399 := (by injection e399)
                            (try simp only [show (1 : Int).toNat = 1 from rfl, Nat.reduceMul, Nat.reduceEqDiff, Go.Addr.add, ↓reduceIte] at hx399_0)
                            (try simp only [show (1 : Int).toNat = 1 from rfl, Nat.reduceMul, Nat.reduceEqDiff, Go.Addr.add, ↓reduceIte] at hx399_1)
                            (try simp only [show (1 : Int).toNat = 1 from rfl, Nat.reduceMul, Nat.reduceEqDiff, Go.Addr.add, ↓reduceIte] at hx399_2)
                            have qi399 : (1 < t392.length) = True := eq_true (by omega)
                            (try rw [show ((1 : Int)).toNat = 1 from rfl] at hx399_0)
                            (try rw [show 1 * 3 = 3 from rfl] at hx399_0)
                            (try rw [show ((1 : Int)).toNat = 1 from rfl] at hx399_1)
                            (try rw [show 1 * 3 = 3 from rfl] at hx399_1)
                            (try rw [show ((1 : Int)).toNat = 1 from rfl] at hx399_2)
                            (try rw [show 1 * 3 = 3 from rfl] at hx399_2)
                            have hn399_0 : ad398.block ≠ gb397 := Kd.own_blk (Kd.R_ne HO394.out BK397.out (by decide))
                            have hn399_1 : ad398.block ≠ gb397 := Kd.own_blk (Kd.R_ne HO394.out BK397.out (by decide))
                            replace hx399_0 := (cell_far (p := ⟨gb397, 0, none⟩) (by first | (rw [add_block]; exact hn399_0) | (show (Addr.add _ _).block ≠ _; rw [add_block]; exact hn399_0) | exact hn399_0) (.int .i64 t395)).trans hx399_0
                            replace hx399_1 := (cell_far (p := ⟨gb397, 0, none⟩) (by first | (rw [add_block]; exact hn399_0) | (show (Addr.add _ _).block ≠ _; rw [add_block]; exact hn399_0) | exact hn399_0) (.int .i64 t395)).trans hx399_1
                            replace hx399_2 := (cell_far (p := ⟨gb397, 0, none⟩) (by first | (rw [add_block]; exact hn399_0) | (show (Addr.add _ _).block ≠ _; rw [add_block]; exact hn399_0) | exact hn399_0) (.int .i64 t395)).trans hx399_2
                            replace hx399_0 := (cell_far (p := ⟨gb397, 1, none⟩) (by first | (rw [add_block]; exact hn399_1) | (show (Addr.add _ _).block ≠ _; rw [add_block]; exact hn399_1) | exact hn399_1) (.int .i64 t396)).trans hx399_0
                            replace hx399_1 := (cell_far (p := ⟨gb397, 1, none⟩) (by first | (rw [add_block]; exact hn399_1) | (show (Addr.add _ _).block ≠ _; rw [add_block]; exact hn399_1) | exact hn399_1) (.int .i64 t396)).trans hx399_1
                            replace hx399_2 := (cell_far (p := ⟨gb397, 1, none⟩) (by first | (rw [add_block]; exact hn399_1) | (show (Addr.add _ _).block ≠ _; rw [add_block]; exact hn399_1) | exact hn399_1) (.int .i64 t396)).trans hx399_2
                            clear hn399_0
                            clear hn399_1
                            replace p399 := eq_true p399
                            replace q399 := eq_true q399
                            have p400 : 0 ≤ (1 : Int) := (by omega)
                            have q400 : 1 < (t392.length : Int) := of_decide_eq_true (by first | (with_reducible assumption) | assumption)
                            obtain ⟨ad400, e400, hx400_0, hx400_1, hx400_2⟩ := at_T33 (Kd.R_reads' HO394.out).2.2 1 p400 q400
                            obtain rfl : ad398 = ad400 := (by injection e400)
                            (try simp only [show (1 : Int).toNat = 1 from rfl, Nat.reduceMul, Nat.reduceEqDiff, Go.Addr.add, ↓reduceIte] at hx400_0)
                            (try simp only [show (1 : Int).toNat = 1 from rfl, Nat.reduceMul, Nat.reduceEqDiff, Go.Addr.add, ↓reduceIte] at hx400_1)
                            (try simp only [show (1 : Int).toNat = 1 from rfl, Nat.reduceMul, Nat.reduceEqDiff, Go.Addr.add, ↓reduceIte] at hx400_2)
                            have qi400 : (1 < t392.length) = True := eq_true (by omega)
                            (try rw [show ((1 : Int)).toNat = 1 from rfl] at hx400_0)
                            (try rw [show 1 * 3 = 3 from rfl] at hx400_0)
                            (try rw [show ((1 : Int)).toNat = 1 from rfl] at hx400_1)
                            (try rw [show 1 * 3 = 3 from rfl] at hx400_1)
                            (try rw [show ((1 : Int)).toNat = 1 from rfl] at hx400_2)
                            (try rw [show 1 * 3 = 3 from rfl] at hx400_2)
                            have hn400_0 : ad398.block ≠ gb397 := Kd.own_blk (Kd.R_ne HO394.out BK397.out (by decide))
                            have hn400_1 : ad398.block ≠ gb397 := Kd.own_blk (Kd.R_ne HO394.out BK397.out (by decide))
                            replace hx400_0 := (cell_far (p := ⟨gb397, 0, none⟩) (by first | (rw [add_block]; exact hn400_0) | (show (Addr.add _ _).block ≠ _; rw [add_block]; exact hn400_0) | exact hn400_0) (.int .i64 t395)).trans hx400_0
                            replace hx400_1 := (cell_far (p := ⟨gb397, 0, none⟩) (by first | (rw [add_block]; exact hn400_0) | (show (Addr.add _ _).block ≠ _; rw [add_block]; exact hn400_0) | exact hn400_0) (.int .i64 t395)).trans hx400_1
                            replace hx400_2 := (cell_far (p := ⟨gb397, 0, none⟩) (by first | (rw [add_block]; exact hn400_0) | (show (Addr.add _ _).block ≠ _; rw [add_block]; exact hn400_0) | exact hn400_0) (.int .i64 t395)).trans hx400_2
                            replace hx400_0 := (cell_far (p := ⟨gb397, 1, none⟩) (by first | (rw [add_block]; exact hn400_1) | (show (Addr.add _ _).block ≠ _; rw [add_block]; exact hn400_1) | exact hn400_1) (.int .i64 t396)).trans hx400_0
                            replace hx400_1 := (cell_far (p := ⟨gb397, 1, none⟩) (by first | (rw [add_block]; exact hn400_1) | (show (Addr.add _ _).block ≠ _; rw [add_block]; exact hn400_1) | exact hn400_1) (.int .i64 t396)).trans hx400_1
                            replace hx400_2 := (cell_far (p := ⟨gb397, 1, none⟩) (by first | (rw [add_block]; exact hn400_1) | (show (Addr.add _ _).block ≠ _; rw [add_block]; exact hn400_1) | exact hn400_1) (.int .i64 t396)).trans hx400_2
                            clear hn400_0
                            clear hn400_1
                            replace p400 := eq_true p400
                            replace q400 := eq_true q400
                            go_wp2
                            go_meet
                            case rel => exact ⟨_, (true), (by first | rfl | (simp; done) | (simp [*]; done)), H', ⟨by have := HK1.out; first | omega | exact Nat.le_refl _⟩, ⟨by (with_reducible repeat (first | refine blk_drewN ?_ _ | refine blk_drew ?_ | refine blk_alloc ?_ _)); refine blk_put (cs := #[.int .i64 t395, .int .i64 0]) ?_ 1 _ rfl; (with_reducible repeat (first | refine blk_drewN ?_ _ | refine blk_drew ?_ | refine blk_alloc ?_ _)); refine blk_put (cs := #[.int .i64 0, .int .i64 0]) ?_ 0 _ rfl; (with_reducible repeat (first | refine blk_drewN ?_ _ | refine blk_drew ?_ | refine blk_alloc ?_ _)); exact BK397.out⟩, ⟨by repeat (first | (with_reducible first | exact HB.out | apply below_alloc | apply pw_below_drewN | apply below_drew1 | refine below_set ?_ GE397.out) | exact HB.out)⟩⟩
                        · rw [if_neg c29] at H
                          have c29b0 : (((rd_T33 t392 1).f1).toList == x5_1.toList) = false := beq_eq_false_iff_ne.mpr c29
                          have c29b1 : (((rd_T33 t392 1).f1).toList != x5_1.toList) = true := bne_iff_ne.mpr c29
                          have H' := Aside0.mk H
                          clear H
                          have hcz36_0 : w23.cell? ⟨gb397, 0, none⟩ = some (.int .i64 0) := (blk_cell BK397.out 0).trans rfl
                          have hcz36_1 : w23.cell? ⟨gb397, 1, none⟩ = some (.int .i64 0) := (blk_cell BK397.out 1).trans rfl
                          have hfz36_0 := blk_frozen BK397.out 0
                          have hfz36_1 := blk_frozen BK397.out 1
                          obtain ⟨Ao37, co37, eo37⟩ := Kd.R_slice HO394.out
                          subst eo37
                          have p398 : 0 ≤ (1 : Int) := (by omega)
                          have q398 : 1 < (t392.length : Int) := of_decide_eq_true (by first | (with_reducible assumption) | assumption)
                          obtain ⟨ad398, e398, hx398_0, hx398_1, hx398_2⟩ := at_T33 (Kd.R_reads' HO394.out).2.2 1 p398 q398
                          cases e398
                          (try simp only [show (1 : Int).toNat = 1 from rfl, Nat.reduceMul, Nat.reduceEqDiff, Go.Addr.add, ↓reduceIte] at hx398_0)
                          (try simp only [show (1 : Int).toNat = 1 from rfl, Nat.reduceMul, Nat.reduceEqDiff, Go.Addr.add, ↓reduceIte] at hx398_1)
                          (try simp only [show (1 : Int).toNat = 1 from rfl, Nat.reduceMul, Nat.reduceEqDiff, Go.Addr.add, ↓reduceIte] at hx398_2)
                          have qi398 : (1 < t392.length) = True := eq_true (by omega)
                          (try rw [show ((1 : Int)).toNat = 1 from rfl] at hx398_0)
                          (try rw [show 1 * 3 = 3 from rfl] at hx398_0)
                          (try rw [show ((1 : Int)).toNat = 1 from rfl] at hx398_1)
                          (try rw [show 1 * 3 = 3 from rfl] at hx398_1)
                          (try rw [show ((1 : Int)).toNat = 1 from rfl] at hx398_2)
                          (try rw [show 1 * 3 = 3 from rfl] at hx398_2)
                          have hn398_0 : ad398.block ≠ gb397 := Kd.own_blk (Kd.R_ne HO394.out BK397.out (by decide))
                          have hn398_1 : ad398.block ≠ gb397 := Kd.own_blk (Kd.R_ne HO394.out BK397.out (by decide))
                          replace hx398_0 := (cell_far (p := ⟨gb397, 0, none⟩) (by first | (rw [add_block]; exact hn398_0) | (show (Addr.add _ _).block ≠ _; rw [add_block]; exact hn398_0) | exact hn398_0) (.int .i64 t395)).trans hx398_0
                          replace hx398_1 := (cell_far (p := ⟨gb397, 0, none⟩) (by first | (rw [add_block]; exact hn398_0) | (show (Addr.add _ _).block ≠ _; rw [add_block]; exact hn398_0) | exact hn398_0) (.int .i64 t395)).trans hx398_1
                          replace hx398_2 := (cell_far (p := ⟨gb397, 0, none⟩) (by first | (rw [add_block]; exact hn398_0) | (show (Addr.add _ _).block ≠ _; rw [add_block]; exact hn398_0) | exact hn398_0) (.int .i64 t395)).trans hx398_2
                          replace hx398_0 := (cell_far (p := ⟨gb397, 1, none⟩) (by first | (rw [add_block]; exact hn398_1) | (show (Addr.add _ _).block ≠ _; rw [add_block]; exact hn398_1) | exact hn398_1) (.int .i64 t396)).trans hx398_0
                          replace hx398_1 := (cell_far (p := ⟨gb397, 1, none⟩) (by first | (rw [add_block]; exact hn398_1) | (show (Addr.add _ _).block ≠ _; rw [add_block]; exact hn398_1) | exact hn398_1) (.int .i64 t396)).trans hx398_1
                          replace hx398_2 := (cell_far (p := ⟨gb397, 1, none⟩) (by first | (rw [add_block]; exact hn398_1) | (show (Addr.add _ _).block ≠ _; rw [add_block]; exact hn398_1) | exact hn398_1) (.int .i64 t396)).trans hx398_2
                          clear hn398_0
                          clear hn398_1
                          replace p398 := eq_true p398
                          replace q398 := eq_true q398
                          have p399 : 0 ≤ (1 : Int) := (by omega)
                          have q399 : 1 < (t392.length : Int) := of_decide_eq_true (by first | (with_reducible assumption) | assumption)
                          obtain ⟨ad399, e399, hx399_0, hx399_1, hx399_2⟩ := at_T33 (Kd.R_reads' HO394.out).2.2 1 p399 q399
                          obtain rfl : ad398 = ad399 := (by injection e399)
                          (try simp only [show (1 : Int).toNat = 1 from rfl, Nat.reduceMul, Nat.reduceEqDiff, Go.Addr.add, ↓reduceIte] at hx399_0)
                          (try simp only [show (1 : Int).toNat = 1 from rfl, Nat.reduceMul, Nat.reduceEqDiff, Go.Addr.add, ↓reduceIte] at hx399_1)
                          (try simp only [show (1 : Int).toNat = 1 from rfl, Nat.reduceMul, Nat.reduceEqDiff, Go.Addr.add, ↓reduceIte] at hx399_2)
                          have qi399 : (1 < t392.length) = True := eq_true (by omega)
                          (try rw [show ((1 : Int)).toNat = 1 from rfl] at hx399_0)
                          (try rw [show 1 * 3 = 3 from rfl] at hx399_0)
                          (try rw [show ((1 : Int)).toNat = 1 from rfl] at hx399_1)
                          (try rw [show 1 * 3 = 3 from rfl] at hx399_1)
                          (try rw [show ((1 : Int)).toNat = 1 from rfl] at hx399_2)
                          (try rw [show 1 * 3 = 3 from rfl] at hx399_2)
                          have hn399_0 : ad398.block ≠ gb397 := Kd.own_blk (Kd.R_ne HO394.out BK397.out (by decide))
                          have hn399_1 : ad398.block ≠ gb397 := Kd.own_blk (Kd.R_ne HO394.out BK397.out (by decide))
                          replace hx399_0 := (cell_far (p := ⟨gb397, 0, none⟩) (by first | (rw [add_block]; exact hn399_0) | (show (Addr.add _ _).block ≠ _; rw [add_block]; exact hn399_0) | exact hn399_0) (.int .i64 t395)).trans hx399_0
                          replace hx399_1 := (cell_far (p := ⟨gb397, 0, none⟩) (by first | (rw [add_block]; exact hn399_0) | (show (Addr.add _ _).block ≠ _; rw [add_block]; exact hn399_0) | exact hn399_0) (.int .i64 t395)).trans hx399_1
                          replace hx399_2 := (cell_far (p := ⟨gb397, 0, none⟩) (by first | (rw [add_block]; exact hn399_0) | (show (Addr.add _ _).block ≠ _; rw [add_block]; exact hn399_0) | exact hn399_0) (.int .i64 t395)).trans hx399_2
                          replace hx399_0 := (cell_far (p := ⟨gb397, 1, none⟩) (by first | (rw [add_block]; exact hn399_1) | (show (Addr.add _ _).block ≠ _; rw [add_block]; exact hn399_1) | exact hn399_1) (.int .i64 t396)).trans hx399_0
                          replace hx399_1 := (cell_far (p := ⟨gb397, 1, none⟩) (by first | (rw [add_block]; exact hn399_1) | (show (Addr.add _ _).block ≠ _; rw [add_block]; exact hn399_1) | exact hn399_1) (.int .i64 t396)).trans hx399_1
                          replace hx399_2 := (cell_far (p := ⟨gb397, 1, none⟩) (by first | (rw [add_block]; exact hn399_1) | (show (Addr.add _ _).block ≠ _; rw [add_block]; exact hn399_1) | exact hn399_1) (.int .i64 t396)).trans hx399_2
                          clear hn399_0
                          clear hn399_1
                          replace p399 := eq_true p399
                          replace q399 := eq_true q399
                          go_wp2
                          go_meet
                          case rel => exact ⟨_, (true), (by first | rfl | (simp; done) | (simp [*]; done)), H', ⟨by have := HK1.out; first | omega | exact Nat.le_refl _⟩, ⟨by (with_reducible repeat (first | refine blk_drewN ?_ _ | refine blk_drew ?_ | refine blk_alloc ?_ _)); refine blk_put (cs := #[.int .i64 t395, .int .i64 0]) ?_ 1 _ rfl; (with_reducible repeat (first | refine blk_drewN ?_ _ | refine blk_drew ?_ | refine blk_alloc ?_ _)); refine blk_put (cs := #[.int .i64 0, .int .i64 0]) ?_ 0 _ rfl; (with_reducible repeat (first | refine blk_drewN ?_ _ | refine blk_drew ?_ | refine blk_alloc ?_ _)); exact BK397.out⟩, ⟨by repeat (first | (with_reducible first | exact HB.out | apply below_alloc | apply pw_below_drewN | apply below_drew1 | refine below_set ?_ GE397.out) | exact HB.out)⟩⟩
                      · rw [if_neg c28] at H
                        have c28b0 : (((rd_T33 t392 1).f0) == 3) = false := beq_eq_false_iff_ne.mpr c28
                        have c28b1 : (((rd_T33 t392 1).f0) != 3) = true := bne_iff_ne.mpr c28
                        have H' := Aside0.mk H
                        clear H
                        have hcz38_0 : w23.cell? ⟨gb397, 0, none⟩ = some (.int .i64 0) := (blk_cell BK397.out 0).trans rfl
                        have hcz38_1 : w23.cell? ⟨gb397, 1, none⟩ = some (.int .i64 0) := (blk_cell BK397.out 1).trans rfl
                        have hfz38_0 := blk_frozen BK397.out 0
                        have hfz38_1 := blk_frozen BK397.out 1
                        obtain ⟨Ao39, co39, eo39⟩ := Kd.R_slice HO394.out
                        subst eo39
                        have p398 : 0 ≤ (1 : Int) := (by omega)
                        have q398 : 1 < (t392.length : Int) := of_decide_eq_true (by first | (with_reducible assumption) | assumption)
                        obtain ⟨ad398, e398, hx398_0, hx398_1, hx398_2⟩ := at_T33 (Kd.R_reads' HO394.out).2.2 1 p398 q398
                        cases e398
                        (try simp only [show (1 : Int).toNat = 1 from rfl, Nat.reduceMul, Nat.reduceEqDiff, Go.Addr.add, ↓reduceIte] at hx398_0)
                        (try simp only [show (1 : Int).toNat = 1 from rfl, Nat.reduceMul, Nat.reduceEqDiff, Go.Addr.add, ↓reduceIte] at hx398_1)
                        (try simp only [show (1 : Int).toNat = 1 from rfl, Nat.reduceMul, Nat.reduceEqDiff, Go.Addr.add, ↓reduceIte] at hx398_2)
                        have qi398 : (1 < t392.length) = True := eq_true (by omega)
                        (try rw [show ((1 : Int)).toNat = 1 from rfl] at hx398_0)
                        (try rw [show 1 * 3 = 3 from rfl] at hx398_0)
                        (try rw [show ((1 : Int)).toNat = 1 from rfl] at hx398_1)
                        (try rw [show 1 * 3 = 3 from rfl] at hx398_1)
                        (try rw [show ((1 : Int)).toNat = 1 from rfl] at hx398_2)
                        (try rw [show 1 * 3 = 3 from rfl] at hx398_2)
                        have hn398_0 : ad398.block ≠ gb397 := Kd.own_blk (Kd.R_ne HO394.out BK397.out (by decide))
                        have hn398_1 : ad398.block ≠ gb397 := Kd.own_blk (Kd.R_ne HO394.out BK397.out (by decide))
                        replace hx398_0 := (cell_far (p := ⟨gb397, 0, none⟩) (by first | (rw [add_block]; exact hn398_0) | (show (Addr.add _ _).block ≠ _; rw [add_block]; exact hn398_0) | exact hn398_0) (.int .i64 t395)).trans hx398_0
                        replace hx398_1 := (cell_far (p := ⟨gb397, 0, none⟩) (by first | (rw [add_block]; exact hn398_0) | (show (Addr.add _ _).block ≠ _; rw [add_block]; exact hn398_0) | exact hn398_0) (.int .i64 t395)).trans hx398_1
                        replace hx398_2 := (cell_far (p := ⟨gb397, 0, none⟩) (by first | (rw [add_block]; exact hn398_0) | (show (Addr.add _ _).block ≠ _; rw [add_block]; exact hn398_0) | exact hn398_0) (.int .i64 t395)).trans hx398_2
                        replace hx398_0 := (cell_far (p := ⟨gb397, 1, none⟩) (by first | (rw [add_block]; exact hn398_1) | (show (Addr.add _ _).block ≠ _; rw [add_block]; exact hn398_1) | exact hn398_1) (.int .i64 t396)).trans hx398_0
                        replace hx398_1 := (cell_far (p := ⟨gb397, 1, none⟩) (by first | (rw [add_block]; exact hn398_1) | (show (Addr.add _ _).block ≠ _; rw [add_block]; exact hn398_1) | exact hn398_1) (.int .i64 t396)).trans hx398_1
                        replace hx398_2 := (cell_far (p := ⟨gb397, 1, none⟩) (by first | (rw [add_block]; exact hn398_1) | (show (Addr.add _ _).block ≠ _; rw [add_block]; exact hn398_1) | exact hn398_1) (.int .i64 t396)).trans hx398_2
                        clear hn398_0
                        clear hn398_1
                        replace p398 := eq_true p398
                        replace q398 := eq_true q398
                        go_wp2
                        go_meet
                        case rel => exact ⟨_, (true), (by first | rfl | (simp; done) | (simp [*]; done)), H', ⟨by have := HK1.out; first | omega | exact Nat.le_refl _⟩, ⟨by (with_reducible repeat (first | refine blk_drewN ?_ _ | refine blk_drew ?_ | refine blk_alloc ?_ _)); refine blk_put (cs := #[.int .i64 t395, .int .i64 0]) ?_ 1 _ rfl; (with_reducible repeat (first | refine blk_drewN ?_ _ | refine blk_drew ?_ | refine blk_alloc ?_ _)); refine blk_put (cs := #[.int .i64 0, .int .i64 0]) ?_ 0 _ rfl; (with_reducible repeat (first | refine blk_drewN ?_ _ | refine blk_drew ?_ | refine blk_alloc ?_ _)); exact BK397.out⟩, ⟨by repeat (first | (with_reducible first | exact HB.out | apply below_alloc | apply pw_below_drewN | apply below_drew1 | refine below_set ?_ GE397.out) | exact HB.out)⟩⟩
                    · rw [if_neg c27] at H
                      exact absurd H (by simp)
                  · rw [if_neg c26] at H
                    have c26b0 : ((t392.length : Int) == 3) = false := beq_eq_false_iff_ne.mpr c26
                    have c26b1 : ((t392.length : Int) != 3) = true := bne_iff_ne.mpr c26
                    have H' := Aside0.mk H
                    clear H
                    have hcz40_0 : w23.cell? ⟨gb397, 0, none⟩ = some (.int .i64 0) := (blk_cell BK397.out 0).trans rfl
                    have hcz40_1 : w23.cell? ⟨gb397, 1, none⟩ = some (.int .i64 0) := (blk_cell BK397.out 1).trans rfl
                    have hfz40_0 := blk_frozen BK397.out 0
                    have hfz40_1 := blk_frozen BK397.out 1
                    obtain ⟨Ao41, co41, eo41⟩ := Kd.R_slice HO394.out
                    subst eo41
                    go_wp2
                    go_meet
                    case rel => exact ⟨_, (true), (by first | rfl | (simp; done) | (simp [*]; done)), H', ⟨by have := HK1.out; first | omega | exact Nat.le_refl _⟩, ⟨by (with_reducible repeat (first | refine blk_drewN ?_ _ | refine blk_drew ?_ | refine blk_alloc ?_ _)); refine blk_put (cs := #[.int .i64 t395, .int .i64 0]) ?_ 1 _ rfl; (with_reducible repeat (first | refine blk_drewN ?_ _ | refine blk_drew ?_ | refine blk_alloc ?_ _)); refine blk_put (cs := #[.int .i64 0, .int .i64 0]) ?_ 0 _ rfl; (with_reducible repeat (first | refine blk_drewN ?_ _ | refine blk_drew ?_ | refine blk_alloc ?_ _)); exact BK397.out⟩, ⟨by repeat (first | (with_reducible first | exact HB.out | apply below_alloc | apply pw_below_drewN | apply below_drew1 | refine below_set ?_ GE397.out) | exact HB.out)⟩⟩
                · rw [if_neg c25] at H
                  have c25b0 : (t395 == 0) = false := beq_eq_false_iff_ne.mpr c25
                  have c25b1 : (t395 != 0) = true := bne_iff_ne.mpr c25
                  (first | rw [c25b0] | (simp only [i64_w, i32_w]; rw [c25b0]) | skip)
                  have H' := Aside0.mk H
                  clear H
                  have hcz42_0 : w23.cell? ⟨gb397, 0, none⟩ = some (.int .i64 0) := (blk_cell BK397.out 0).trans rfl
                  have hcz42_1 : w23.cell? ⟨gb397, 1, none⟩ = some (.int .i64 0) := (blk_cell BK397.out 1).trans rfl
                  have hfz42_0 := blk_frozen BK397.out 0
                  have hfz42_1 := blk_frozen BK397.out 1
                  go_wp2
                  go_meet
                  case rel => exact ⟨_, (true), (by first | rfl | (simp; done) | (simp [*]; done)), H', ⟨by have := HK1.out; first | omega | exact Nat.le_refl _⟩, ⟨by (with_reducible repeat (first | refine blk_drewN ?_ _ | refine blk_drew ?_ | refine blk_alloc ?_ _)); refine blk_put (cs := #[.int .i64 t395, .int .i64 0]) ?_ 1 _ rfl; (with_reducible repeat (first | refine blk_drewN ?_ _ | refine blk_drew ?_ | refine blk_alloc ?_ _)); refine blk_put (cs := #[.int .i64 0, .int .i64 0]) ?_ 0 _ rfl; (with_reducible repeat (first | refine blk_drewN ?_ _ | refine blk_drew ?_ | refine blk_alloc ?_ _)); exact BK397.out⟩, ⟨by repeat (first | (with_reducible first | exact HB.out | apply below_alloc | apply pw_below_drewN | apply below_drew1 | refine below_set ?_ GE397.out) | exact HB.out)⟩⟩
              case rest =>
                clear HC17
                try clear c1
                try clear hcv1
                try clear c2
                try clear p2
                try clear c3
                try clear c3b0
                try clear c3b1
                try clear p3
                try clear q3
                try clear hx3
                try clear qi3
                try clear p4
                try clear q4
                try clear hx4
                try clear qi4
                try clear c6
                try clear c6b0
                try clear p6
                try clear c7
                try clear c7b0
                try clear c8
                try clear c8b0
                try clear c9
                try clear c9b0
                try clear c9b1
                try clear c9b2
                try clear hcv12
                try clear c14
                try clear c14b0
                try clear c14b1
                try clear c14b2
                try clear c15
                try clear c15b0
                try clear c15b1
                try clear c15b2
                try clear c19
                try clear c25
                try clear c25b0
                try clear c25b1
                try clear c26
                try clear c26b0
                try clear c26b1
                try clear c27
                try clear c27b0
                try clear c27b1
                try clear c28
                try clear c28b0
                try clear c28b1
                try clear c29
                try clear c29b0
                try clear c29b1
                try clear c30
                try clear c30b0
                try clear c30b1
                try clear c31
                try clear c31b0
                try clear c31b1
                try clear p38
                try clear q38
                try clear hx38
                try clear p39
                try clear q39
                try clear hx39
                try clear qi39
                try clear p40
                try clear q40
                try clear hx40
                try clear qi40
                try clear hcz24_0
                try clear hcz24_1
                try clear hcz32_0
                try clear hcz32_1
                try clear hcz34_0
                try clear hcz34_1
                try clear hcz36_0
                try clear hcz36_1
                try clear hcz38_0
                try clear hcz38_1
                try clear hcz40_0
                try clear hcz40_1
                try clear hcz42_0
                try clear hcz42_1
                try clear hfz24_0
                try clear hfz24_1
                try clear hfz32_0
                try clear hfz32_1
                try clear hfz34_0
                try clear hfz34_1
                try clear hfz36_0
                try clear hfz36_1
                try clear hfz38_0
                try clear hfz38_1
                try clear hfz40_0
                try clear hfz40_1
                try clear hfz42_0
                try clear hfz42_1
                try clear hx384_0
                try clear hx398_0
                try clear hx398_1
                try clear hx398_2
                try clear hx399_0
                try clear hx399_1
                try clear hx399_2
                try clear hx400_0
                try clear hx400_1
                try clear hx400_2
                try clear hx401_0
                try clear hx401_1
                try clear hx401_2
                try clear p2
                try clear p384
                try clear p398
                try clear p399
                try clear p400
                try clear p401
                try clear q384
                try clear q398
                try clear q399
                try clear q400
                try clear q401
                obtain ⟨kq, x80_16, rfl, HA, HJ16, BK397, HB⟩ := hcut
                cases kq with
                | zero => exact absurd HA.out (by simp [glebelaw8_IsctBack.j1])
                | succ kj16 =>
                  have H := HA.out
                  clear HA
                  simp only [glebelaw8_IsctBack.j1] at H
                  by_cases c43 : x80_16 = true
                  · subst c43
                    have H1 : (none) = some r := by rw [if_pos rfl] at H; exact H
                    clear H
                    have H := H1
                    clear H1
                    exact absurd H (by simp)
                  · replace c43 := Bool.eq_false_iff.mpr c43
                    subst c43
                    have H1 : ((glebelaw8_Text.f kj16 l1).bind fun t402 => ((isct_Tokens.f kj16 t402).bind fun bt405 => (if bt405.2.1 = 0 then (glebelaw8_IsctBack.l1 kj16 bt405.1 ([] : List Int) (bt405.1.length : Int) 0) else (if (bt405.1.length : Int) = 0 then (if bt405.2.2 ≥ 0 then ((glebelaw8_Text.f kj16 l1).bind fun t411 => (if bt405.2.2 ≤ (t411.length : Int) then ((glebelaw8_awake.f kj16).bind fun t414 => (some t414)) else (none))) else (none)) else (none))))) = some r := by rw [if_neg (show ¬ (false = true) by decide)] at H; exact H
                    clear H
                    have H := H1
                    clear H1
                    replace H := Option.bind_eq_some_iff.mp H
                    obtain ⟨t402, A440, H⟩ := H
                    replace H : ((isct_Tokens.f kj16 t402).bind fun bt405 => (if bt405.2.1 = 0 then (glebelaw8_IsctBack.l1 kj16 bt405.1 ([] : List Int) (bt405.1.length : Int) 0) else (if (bt405.1.length : Int) = 0 then (if bt405.2.2 ≥ 0 then ((glebelaw8_Text.f kj16 l1).bind fun t411 => (if bt405.2.2 ≤ (t411.length : Int) then ((glebelaw8_awake.f kj16).bind fun t414 => (some t414)) else (none))) else (none)) else (none)))) = some r := H
                    have A44 := Aside0.mk A440
                    clear A440
                    replace H := Option.bind_eq_some_iff.mp H
                    obtain ⟨⟨t405, t408, t409⟩, A450, H⟩ := H
                    replace H : (if t408 = 0 then (glebelaw8_IsctBack.l1 kj16 t405 ([] : List Int) (t405.length : Int) 0) else (if (t405.length : Int) = 0 then (if t409 ≥ 0 then ((glebelaw8_Text.f kj16 l1).bind fun t411 => (if t409 ≤ (t411.length : Int) then ((glebelaw8_awake.f kj16).bind fun t414 => (some t414)) else (none))) else (none)) else (none))) = some r := H
                    have A45 := Aside0.mk A450
                    clear A450
                    by_cases c46 : t408 = 0
                    · rw [if_pos c46] at H
                      have c46b0 : (t408 == 0) = true := beq_iff_eq.mpr c46
                      have c46b1 : (t408 != 0) = false := bne_eq_false_iff_eq.mpr c46
                      clear c46
                      have H' := Aside0.mk H
                      clear H
                      go_wp2_with (first | ((with_reducible refine gate_callee (f := 16) rfl ?_); refine goesL_ (some 83) rfl rfl Try.func16 (by kernel_rfl) rfl #[.slice A1 l1.length c1] rfl (by (try simp only [List.map_toArray, List.map_cons, List.map_nil]); first | done | rfl | (simp only [List.length_drop, List.length_take]; rfl)) ?_; (with_reducible refine (glebelaw8_Text.calls kj16 _ _ l1 t402 _ ?side1 ?side2 A44.out).mono ?_); (case side1 => repeat (first | exact (Kd.C_below HR1.out HB.out) | (with_reducible refine Kd.C_alloc ?_ _) | (with_reducible refine Kd.C_drewN ?_ _) | (with_reducible refine Kd.C_drew ?_))); (case side2 => exact HC1.out); rintro e w47 ⟨v403, rfl, ho0, hb⟩; refine ⟨_, rfl, ?_⟩; have n0_ := Aside0.mk (Kd.R_lower ho0 (below_size (by repeat (first | (with_reducible first | exact HB.out | apply below_alloc | apply pw_below_drewN | apply below_drew1 | refine below_set ?_ GE397.out) | exact HB.out)))); have n1_ := Aside0.mk (blk_below (g := gb397) (o := .cells #[.int .i64 t395, .int .i64 t396] 26 (0, 0)) (by (with_reducible repeat (first | refine blk_drewN ?_ _ | refine blk_drew ?_ | refine blk_alloc ?_ _)); exact BK397.out) hb); have n2_ := Aside0.mk (below_step (by repeat (first | (with_reducible first | exact HB.out | apply below_alloc | apply pw_below_drewN | apply below_drew1 | refine below_set ?_ GE397.out) | exact HB.out)) hb); clear BK397; clear HB; have HO404 := n0_; have BK397 := n1_; have HB := n2_; clear n0_ n1_ n2_; (try clear hb); (try clear hb2); (try clear hk); (try clear hi); (try clear ho0); obtain ⟨Ao48, co48, eo48⟩ := Kd.R_slice HO404.out; subst eo48) | ((with_reducible refine gate_callee (f := 14) rfl ?_); refine goesL_ (some 84) rfl rfl Try.func14 (by kernel_rfl) rfl #[.slice Ao48 t402.length co48] rfl (by (try simp only [List.map_toArray, List.map_cons, List.map_nil]); first | done | rfl | (simp only [List.length_drop, List.length_take]; rfl)) ?_; (with_reducible refine (isct_Tokens.calls kj16 _ _ t402 t405 t408 t409 _ ?side1 ?side2 A45.out).mono ?_); (case side1 => repeat (first | exact (Kd.R_reads' HO404.out).2.2 | (with_reducible refine Kd.C_alloc ?_ _) | (with_reducible refine Kd.C_drewN ?_ _) | (with_reducible refine Kd.C_drew ?_))); (case side2 => exact (Kd.R_reads' HO404.out).2.1); rintro e w49 ⟨v406, rfl, ho0, hb⟩; refine ⟨_, rfl, ?_⟩; have n0_ := Aside0.mk (Kd.R_below (by (with_reducible repeat (first | apply Kd.R_alloc | apply Kd.R_drewN | apply Kd.R_drew)); exact HO404.out) hb); have n1_ := Aside0.mk (Kd.R_lower ho0 (below_size (by repeat (first | (with_reducible first | exact HB.out | apply below_alloc | apply pw_below_drewN | apply below_drew1 | refine below_set ?_ GE397.out) | exact HB.out)))); have n2_ := Aside0.mk (blk_below (g := gb397) (o := .cells #[.int .i64 t395, .int .i64 t396] 26 (0, 0)) (by (with_reducible repeat (first | refine blk_drewN ?_ _ | refine blk_drew ?_ | refine blk_alloc ?_ _)); exact BK397.out) hb); have n3_ := Aside0.mk (below_step (by repeat (first | (with_reducible first | exact HB.out | apply below_alloc | apply pw_below_drewN | apply below_drew1 | refine below_set ?_ GE397.out) | exact HB.out)) hb); clear HO404; clear BK397; clear HB; have HO404 := n0_; have HO407 := n1_; have BK397 := n2_; have HB := n3_; clear n0_ n1_ n2_ n3_; (try clear hb); (try clear hb2); (try clear hk); (try clear hi); (try clear ho0)) | ((with_reducible refine gate_dst (N := 11) rfl ?_); (try (refine gate_guard (by rfl) ?_; dsimp only)); refine box_event ?hg (N := 11) ?hd (cs := #[.int .i64 0, .int .i64 0]) (t := 26) ?hr ?_; (case hd => rfl); (case hg => rfl); (case hr => first | (go_simp; done) | (go_simp; rfl)); intro gb410 hg w50 hbox hb; have n0_ := Aside0.mk (Kd.R_below (by (with_reducible repeat (first | apply Kd.R_alloc | apply Kd.R_drewN | apply Kd.R_drew)); exact HO404.out) hb); have n1_ := Aside0.mk (Kd.R_below (by (with_reducible repeat (first | apply Kd.R_alloc | apply Kd.R_drewN | apply Kd.R_drew)); exact HO407.out) hb); have n2_ := Aside0.mk (blk_below (g := gb397) (o := .cells #[.int .i64 t395, .int .i64 t396] 26 (0, 0)) (by (with_reducible repeat (first | refine blk_drewN ?_ _ | refine blk_drew ?_ | refine blk_alloc ?_ _)); exact BK397.out) hb); have n3_ := Aside0.mk (below_step (by repeat (first | (with_reducible first | exact HB.out | apply below_alloc | apply pw_below_drewN | apply below_drew1 | refine below_set ?_ GE397.out) | exact HB.out)) hb); have n4_ := Aside0.mk (hbox); have n5_ := Aside0.mk ((by rw [hg]; exact (below_size (by repeat (first | (with_reducible first | exact HB.out | apply below_alloc | apply pw_below_drewN | apply below_drew1 | refine below_set ?_ GE397.out) | exact HB.out))) : w.heap.size ≤ gb410)); have n6_ := Aside0.mk ((by rw [hg]; exact (below_size (by repeat (first | (with_reducible first | exact HB.out | apply below_alloc | apply pw_below_drewN | apply below_drew1 | refine below_set ?_ GE397.out) | exact HB.out))) : w.heap.size ≤ gb410)); have n7_ := Aside0.mk ((by rw [hg]; exact Nat.ne_of_lt (blk_lt (g := gb397) (o := .cells #[.int .i64 t395, .int .i64 t396] 26 (0, 0)) (by (with_reducible repeat (first | refine blk_drewN ?_ _ | refine blk_drew ?_ | refine blk_alloc ?_ _)); exact BK397.out)) : gb397 ≠ gb410)); have n8_ := Aside0.mk ((by rw [hg]; exact Nat.ne_of_gt (blk_lt (g := gb397) (o := .cells #[.int .i64 t395, .int .i64 t396] 26 (0, 0)) (by (with_reducible repeat (first | refine blk_drewN ?_ _ | refine blk_drew ?_ | refine blk_alloc ?_ _)); exact BK397.out)) : gb410 ≠ gb397)); clear HO404; clear HO407; clear BK397; clear HB; have HO404 := n0_; have HO407 := n1_; have BK397 := n2_; have HB := n3_; have BK410 := n4_; have GW410 := n5_; have GE410 := n6_; have NB397_410 := n7_; have NB410_397 := n8_; clear n0_ n1_ n2_ n3_ n4_ n5_ n6_ n7_ n8_; clear hb hbox hg; have hnb51 := NB410_397.out; have hnc51 := NB397_410.out; have hcz52_0 : w50.cell? ⟨gb410, 0, none⟩ = some (.int .i64 0) := (blk_cell BK410.out 0).trans rfl; have hcz52_1 : w50.cell? ⟨gb410, 1, none⟩ = some (.int .i64 0) := (blk_cell BK410.out 1).trans rfl; have hfz52_0 := blk_frozen BK410.out 0; have hfz52_1 := blk_frozen BK410.out 1; obtain ⟨Ao53, co53, eo53⟩ := Kd.R_slice HO407.out; subst eo53))
                      go_loopg [12, 111] kj16 (fun kq v12 v111 w' => ∃ (x12_3 : List Int) (x111_3 : Int), v111 = .int .i64 x111_3 ∧ Aside0 (glebelaw8_IsctBack.l1 kq t405 x12_3 (t405.length : Int) x111_3 = some r) ∧ Aside0 (kq ≤ kj16) ∧ Aside0 (Kd.R k33 33 w' w.heap.size (fun _ => True) (.slice Ao53 t405.length co53) t405) ∧ Aside0 (Kd.R (Kd.int .u8) 5 w' w.heap.size (fun _ => True) v12 x12_3) ∧ Aside0 (w'.heap[gb397]? = some (.cells #[.int .i64 t395, .int .i64 t396] 26 (0, 0))) ∧ Aside0 (w'.heap[gb410]? = some (.cells #[.int .i64 t408, .int .i64 t409] 26 (0, 0))) ∧ Aside0 (Below w.heap.size w w'))
                      case atStart => exact ⟨(([] : List Int)), (0), (by first | rfl | (simp; done) | (simp [*]; done)), H', ⟨Nat.le_refl _⟩, ⟨by (with_reducible repeat (first | apply Kd.R_alloc | apply Kd.R_drewN | apply Kd.R_drew)); exact Kd.R_mono (Kd.R_far (p := ⟨gb410, 1, none⟩) (Kd.R_far (p := ⟨gb410, 0, none⟩) (Kd.R_types HO407.out BK410.out (by decide)) (fun _ hk => hk.2) (.int .i64 t408)) (fun _ hk => hk.2) (.int .i64 t409)) (fun _ hk => trivial)⟩, ⟨by first | exact Kd.R_nil _ _ _ _ _ | exact Kd.N_nil _ _ _ _ _ | exact Kd.V_nil _ _ _ _ _ | exact Kd.Q_nil _ _ _ _ _ | exact Kd.S_nil _ _ _ _ _⟩, ⟨by (with_reducible repeat (first | refine blk_drewN ?_ _ | refine blk_drew ?_ | refine blk_alloc ?_ _)); refine blk_far ?_ NB397_410.out _; (with_reducible repeat (first | refine blk_drewN ?_ _ | refine blk_drew ?_ | refine blk_alloc ?_ _)); refine blk_far ?_ NB397_410.out _; (with_reducible repeat (first | refine blk_drewN ?_ _ | refine blk_drew ?_ | refine blk_alloc ?_ _)); exact BK397.out⟩, ⟨by (with_reducible repeat (first | refine blk_drewN ?_ _ | refine blk_drew ?_ | refine blk_alloc ?_ _)); refine blk_put (cs := #[.int .i64 t408, .int .i64 0]) ?_ 1 _ rfl; (with_reducible repeat (first | refine blk_drewN ?_ _ | refine blk_drew ?_ | refine blk_alloc ?_ _)); refine blk_put (cs := #[.int .i64 0, .int .i64 0]) ?_ 0 _ rfl; (with_reducible repeat (first | refine blk_drewN ?_ _ | refine blk_drew ?_ | refine blk_alloc ?_ _)); exact BK410.out⟩, ⟨by repeat (first | (with_reducible first | exact HB.out | apply below_alloc | apply pw_below_drewN | apply below_drew1 | refine below_set ?_ GE397.out | refine below_set ?_ GE410.out) | exact HB.out)⟩⟩
                      case round =>
                        clear H'
                        try clear c1
                        try clear hcv1
                        try clear c2
                        try clear p2
                        try clear c3
                        try clear c3b0
                        try clear c3b1
                        try clear p3
                        try clear q3
                        try clear hx3
                        try clear qi3
                        try clear c4
                        try clear p4
                        try clear q4
                        try clear hx4
                        try clear qi4
                        try clear c5
                        try clear c6
                        try clear c6b0
                        try clear p6
                        try clear c7
                        try clear c7b0
                        try clear c8
                        try clear c8b0
                        try clear c9
                        try clear c9b0
                        try clear c9b1
                        try clear c9b2
                        try clear hcv12
                        try clear c14
                        try clear c14b0
                        try clear c14b1
                        try clear c14b2
                        try clear c15
                        try clear c15b0
                        try clear c15b1
                        try clear c15b2
                        try clear c16
                        try clear c19
                        try clear c25
                        try clear c25b0
                        try clear c25b1
                        try clear c26
                        try clear c26b0
                        try clear c26b1
                        try clear c27
                        try clear c27b0
                        try clear c27b1
                        try clear c28
                        try clear c28b0
                        try clear c28b1
                        try clear c29
                        try clear c29b0
                        try clear c29b1
                        try clear c30
                        try clear c30b0
                        try clear c30b1
                        try clear c31
                        try clear c31b0
                        try clear c31b1
                        try clear p38
                        try clear q38
                        try clear hx38
                        try clear p39
                        try clear q39
                        try clear hx39
                        try clear qi39
                        try clear p40
                        try clear q40
                        try clear hx40
                        try clear qi40
                        try clear c43
                        try clear c46
                        try clear c46b0
                        try clear c46b1
                        try clear c51
                        try clear hcz24_0
                        try clear hcz24_1
                        try clear hcz32_0
                        try clear hcz32_1
                        try clear hcz34_0
                        try clear hcz34_1
                        try clear hcz36_0
                        try clear hcz36_1
                        try clear hcz38_0
                        try clear hcz38_1
                        try clear hcz40_0
                        try clear hcz40_1
                        try clear hcz42_0
                        try clear hcz42_1
                        try clear hcz52_0
                        try clear hcz52_1
                        try clear hfz24_0
                        try clear hfz24_1
                        try clear hfz32_0
                        try clear hfz32_1
                        try clear hfz34_0
                        try clear hfz34_1
                        try clear hfz36_0
                        try clear hfz36_1
                        try clear hfz38_0
                        try clear hfz38_1
                        try clear hfz40_0
                        try clear hfz40_1
                        try clear hfz42_0
                        try clear hfz42_1
                        try clear hfz52_0
                        try clear hfz52_1
                        try clear hx384_0
                        try clear hx398_0
                        try clear hx398_1
                        try clear hx398_2
                        try clear hx399_0
                        try clear hx399_1
                        try clear hx399_2
                        try clear hx400_0
                        try clear hx400_1
                        try clear hx400_2
                        try clear hx401_0
                        try clear hx401_1
                        try clear hx401_2
                        try clear p2
                        try clear p3
                        try clear p38
                        try clear p384
                        try clear p39
                        try clear p398
                        try clear p399
                        try clear p4
                        try clear p40
                        try clear p400
                        try clear p401
                        try clear p6
                        try clear q3
                        try clear q38
                        try clear q384
                        try clear q39
                        try clear q398
                        try clear q399
                        try clear q4
                        try clear q40
                        try clear q400
                        try clear q401
                        obtain ⟨x12_3, x111_3, rfl, HA, HK3, HO_10, HO_12, BK397, BK410, HB⟩ := hrel
                        cases gk with
                        | zero => exact absurd HA.out (by simp [glebelaw8_IsctBack.l1])
                        | succ k3 =>
                          have H := HA.out
                          clear HA
                          simp only [glebelaw8_IsctBack.l1] at H
                          by_cases c54 : x111_3 < (t405.length : Int)
                          · rw [if_pos c54] at H
                            have c54b0 : decide (x111_3 < (t405.length : Int)) = true := decide_eq_true c54
                            clear c54
                            by_cases c55 : x12_3.length + 7 < 140737488355328
                            · rw [if_pos c55] at H
                              have LMc55 := Aside0.mk c55
                              clear c55
                              obtain ⟨y415, hy415⟩ : ∃ y_ : List Int, y_ = (x12_3 ++ bytesOf (⟨#[32, 9, 35, 32, 195, 169, 10]⟩ : ByteArray)) := ⟨_, rfl⟩
                              replace H : (if 0 ≤ x111_3 then (if x111_3 < (t405.length : Int) then (if ((rd_T33 t405 x111_3).f0) = 3 then ((isct_Quote.f k3 ((rd_T33 t405 x111_3).f1)).bind fun t420 => (if y415.length + t420.size < 140737488355328 then (glebelaw8_IsctBack.l1 k3 t405 (y415 ++ bytesOf t420) (t405.length : Int) (wrap64 (x111_3 + 1))) else (none))) else (if y415.length + ((rd_T33 t405 x111_3).f1).size < 140737488355328 then (glebelaw8_IsctBack.l1 k3 t405 (y415 ++ bytesOf ((rd_T33 t405 x111_3).f1)) (t405.length : Int) (wrap64 (x111_3 + 1))) else (none))) else (none)) else (none)) = some r := by first | (rw [hy415]; with_reducible exact H) | (have H2_ := (Option.bind_some _ _).symm.trans H; rw [hy415]; with_reducible exact H2_) | (have H2_ := (Option.bind_some _ _).symm.trans H; with_reducible exact H2_) | with_reducible exact H | (rw [hy415]; exact H) | exact H
                              have Ny415 := Aside0.mk hy415
                              clear hy415
                              by_cases c56 : 0 ≤ x111_3
                              · rw [if_pos c56] at H
                                have c56b0 : decide (0 ≤ x111_3) = true := decide_eq_true c56
                                clear c56
                                by_cases c57 : x111_3 < (t405.length : Int)
                                · rw [if_pos c57] at H
                                  have c57b0 : decide (x111_3 < (t405.length : Int)) = true := decide_eq_true c57
                                  clear c57
                                  by_cases c58 : ((rd_T33 t405 x111_3).f0) = 3
                                  · rw [if_pos c58] at H
                                    have c58b0 : (((rd_T33 t405 x111_3).f0) == 3) = true := beq_iff_eq.mpr c58
                                    have c58b1 : (((rd_T33 t405 x111_3).f0) != 3) = false := bne_eq_false_iff_eq.mpr c58
                                    clear c58
                                    replace H := Option.bind_eq_some_iff.mp H
                                    obtain ⟨t420, A590, H⟩ := H
                                    replace H : (if y415.length + t420.size < 140737488355328 then (glebelaw8_IsctBack.l1 k3 t405 (y415 ++ bytesOf t420) (t405.length : Int) (wrap64 (x111_3 + 1))) else (none)) = some r := H
                                    have A59 := Aside0.mk A590
                                    clear A590
                                    by_cases c60 : y415.length + t420.size < 140737488355328
                                    · rw [if_pos c60] at H
                                      have LMc60 := Aside0.mk c60
                                      clear c60
                                      obtain ⟨y421, hy421⟩ : ∃ y_ : List Int, y_ = (y415 ++ bytesOf t420) := ⟨_, rfl⟩
                                      replace H : (glebelaw8_IsctBack.l1 k3 t405 y421 (t405.length : Int) (wrap64 (x111_3 + 1))) = some r := by first | (rw [hy421]; with_reducible exact H) | (have H2_ := (Option.bind_some _ _).symm.trans H; rw [hy421]; with_reducible exact H2_) | (have H2_ := (Option.bind_some _ _).symm.trans H; with_reducible exact H2_) | with_reducible exact H | (rw [hy421]; exact H) | exact H
                                      have Ny421 := Aside0.mk hy421
                                      clear hy421
                                      have H' := Aside0.mk H
                                      clear H
                                      go_wp2_with (first | (at_builtin; refine print_append_str (w0 := w) w.heap.size rfl (.tmp 114) _ 29 9 5 rfl Try.underlying29 Try.underlying9 info5 u12 x12_3 (⟨#[32, 9, 35, 32, 195, 169, 10]⟩ : ByteArray) rfl rfl ?aO ?aB ?aS ?aL ?_; (case aB => exact (by repeat (first | (with_reducible first | exact HB.out | apply below_alloc | apply pw_below_drewN | apply below_drew1 | refine below_set ?_ GE397.out | refine below_set ?_ GE410.out) | exact HB.out))); (case aO => exact (Kd.own_of_R (by (with_reducible repeat (first | apply Kd.R_alloc | apply Kd.R_drewN | apply Kd.R_drew)); exact HO_12.out))); (case aS => exact (below_size (by repeat (first | (with_reducible first | exact HB.out | apply below_alloc | apply pw_below_drewN | apply below_drew1 | refine below_set ?_ GE397.out | refine below_set ?_ GE410.out) | exact HB.out)))); (case aL => have := LMc55.out; have hlx_ : (⟨#[32, 9, 35, 32, 195, 169, 10]⟩ : ByteArray).size = 7 := (by first | rfl | (simp only [ByteArray.size_append]; rfl)); omega); intro v416 w61 ho0 hb hg; have ho := Kd.R_of_own (h1 := fun _ => rfl) (ok := fun _ => True) ho0 (fun _ _ => trivial); clear ho0; have hat := True.intro; rw [← Ny415.out] at ho; change Kd.R (Kd.int .u8) 5 w61 w.heap.size (fun _ => True) v416 y415 at ho; have n0_ := Aside0.mk (Kd.R_over' (by (with_reducible repeat (first | apply Kd.R_alloc | apply Kd.R_drewN | apply Kd.R_drew)); exact HO_10.out) (Kd.R_typed (by (with_reducible repeat (first | apply Kd.R_alloc | apply Kd.R_drewN | apply Kd.R_drew)); exact HO_12.out)) (by decide) hg); have n1_ := Aside0.mk (blk_grown (g := gb397) (o := .cells #[.int .i64 t395, .int .i64 t396] 26 (0, 0)) (by (with_reducible repeat (first | refine blk_drewN ?_ _ | refine blk_drew ?_ | refine blk_alloc ?_ _)); exact BK397.out) hg (Kd.R_ne HO_12.out BK397.out (by decide))); have n2_ := Aside0.mk (blk_grown (g := gb410) (o := .cells #[.int .i64 t408, .int .i64 t409] 26 (0, 0)) (by (with_reducible repeat (first | refine blk_drewN ?_ _ | refine blk_drew ?_ | refine blk_alloc ?_ _)); exact BK410.out) hg (Kd.R_ne HO_12.out BK410.out (by decide))); have n3_ := Aside0.mk (hb); have n4_ := Aside0.mk (ho); clear HO_10; clear BK397; clear BK410; clear HB; clear HO_12; have HO_10 := n0_; have BK397 := n1_; have BK410 := n2_; have HB := n3_; have HO417 := n4_; clear n0_ n1_ n2_ n3_ n4_; clear ho hb hg hat; have p418 : 0 ≤ (x111_3 : Int) := of_decide_eq_true (by first | (with_reducible assumption) | assumption); have q418 : x111_3 < (t405.length : Int) := of_decide_eq_true (by first | (with_reducible assumption) | assumption); obtain ⟨ad418, e418, hx418_0, hx418_1, hx418_2⟩ := at_T33 (Kd.R_reads' HO_10.out).2.2 x111_3 p418 q418; cases e418; replace p418 := eq_true p418; replace q418 := eq_true q418; have p419 : 0 ≤ (x111_3 : Int) := of_decide_eq_true (by first | (with_reducible assumption) | assumption); have q419 : x111_3 < (t405.length : Int) := of_decide_eq_true (by first | (with_reducible assumption) | assumption); obtain ⟨ad419, e419, hx419_0, hx419_1, hx419_2⟩ := at_T33 (Kd.R_reads' HO_10.out).2.2 x111_3 p419 q419; obtain rfl : ad418 = ad419 := (by injection e419); replace p419 := eq_true p419; replace q419 := eq_true q419) | ((with_reducible refine gate_callee (f := 19) rfl ?_); refine goesL_ (some 128) rfl rfl Try.func19 (by kernel_rfl) rfl #[.string ((rd_T33 t405 x111_3).f1)] rfl (by (try simp only [List.map_toArray, List.map_cons, List.map_nil]); first | done | rfl | (simp only [List.length_drop, List.length_take]; rfl)) ?_; (with_reducible refine (isct_Quote.calls k3 ((rd_T33 t405 x111_3).f1) t420 _ A59.out).mono ?_); rintro e w62 ⟨rfl, hb⟩; refine ⟨_, rfl, ?_⟩; have n0_ := Aside0.mk (Kd.R_below (by (with_reducible repeat (first | apply Kd.R_alloc | apply Kd.R_drewN | apply Kd.R_drew)); exact HO_10.out) hb); have n1_ := Aside0.mk (Kd.R_below (by (with_reducible repeat (first | apply Kd.R_alloc | apply Kd.R_drewN | apply Kd.R_drew)); exact HO417.out) hb); have n2_ := Aside0.mk (blk_below (g := gb397) (o := .cells #[.int .i64 t395, .int .i64 t396] 26 (0, 0)) (by (with_reducible repeat (first | refine blk_drewN ?_ _ | refine blk_drew ?_ | refine blk_alloc ?_ _)); exact BK397.out) hb); have n3_ := Aside0.mk (blk_below (g := gb410) (o := .cells #[.int .i64 t408, .int .i64 t409] 26 (0, 0)) (by (with_reducible repeat (first | refine blk_drewN ?_ _ | refine blk_drew ?_ | refine blk_alloc ?_ _)); exact BK410.out) hb); have n4_ := Aside0.mk (below_step (by repeat (first | (with_reducible first | exact HB.out | apply below_alloc | apply pw_below_drewN | apply below_drew1 | refine below_set ?_ GE397.out | refine below_set ?_ GE410.out) | exact HB.out)) hb); clear HO_10; clear HO417; clear BK397; clear BK410; clear HB; have HO_10 := n0_; have HO417 := n1_; have BK397 := n2_; have BK410 := n3_; have HB := n4_; clear n0_ n1_ n2_ n3_ n4_; (try clear hb); (try clear hb2); (try clear hk); (try clear hi)) | (at_builtin; refine print_append_str (w0 := w) w.heap.size rfl (.tmp 122) _ 29 9 5 rfl Try.underlying29 Try.underlying9 info5 v416 y415 t420 rfl rfl ?aO ?aB ?aS ?aL ?_; (case aB => exact (by repeat (first | (with_reducible first | exact HB.out | apply below_alloc | apply pw_below_drewN | apply below_drew1 | refine below_set ?_ GE397.out | refine below_set ?_ GE410.out) | exact HB.out))); (case aO => exact (Kd.own_of_R (by (with_reducible repeat (first | apply Kd.R_alloc | apply Kd.R_drewN | apply Kd.R_drew)); exact HO417.out))); (case aS => exact (below_size (by repeat (first | (with_reducible first | exact HB.out | apply below_alloc | apply pw_below_drewN | apply below_drew1 | refine below_set ?_ GE397.out | refine below_set ?_ GE410.out) | exact HB.out)))); (case aL => have := LMc60.out; omega); intro v422 w63 ho0 hb hg; have ho := Kd.R_of_own (h1 := fun _ => rfl) (ok := fun _ => True) ho0 (fun _ _ => trivial); clear ho0; have hat := True.intro; rw [← Ny421.out] at ho; change Kd.R (Kd.int .u8) 5 w63 w.heap.size (fun _ => True) v422 y421 at ho; have n0_ := Aside0.mk (Kd.R_over' (by (with_reducible repeat (first | apply Kd.R_alloc | apply Kd.R_drewN | apply Kd.R_drew)); exact HO_10.out) (Kd.R_typed (by (with_reducible repeat (first | apply Kd.R_alloc | apply Kd.R_drewN | apply Kd.R_drew)); exact HO417.out)) (by decide) hg); have n1_ := Aside0.mk (blk_grown (g := gb397) (o := .cells #[.int .i64 t395, .int .i64 t396] 26 (0, 0)) (by (with_reducible repeat (first | refine blk_drewN ?_ _ | refine blk_drew ?_ | refine blk_alloc ?_ _)); exact BK397.out) hg (Kd.R_ne HO417.out BK397.out (by decide))); have n2_ := Aside0.mk (blk_grown (g := gb410) (o := .cells #[.int .i64 t408, .int .i64 t409] 26 (0, 0)) (by (with_reducible repeat (first | refine blk_drewN ?_ _ | refine blk_drew ?_ | refine blk_alloc ?_ _)); exact BK410.out) hg (Kd.R_ne HO417.out BK410.out (by decide))); have n3_ := Aside0.mk (hb); have n4_ := Aside0.mk (ho); clear HO_10; clear BK397; clear BK410; clear HB; clear HO417; have HO_10 := n0_; have BK397 := n1_; have BK410 := n2_; have HB := n3_; have HO423 := n4_; clear n0_ n1_ n2_ n3_ n4_; clear ho hb hg hat))
                                      go_roundg k3
                                      case measure => have := HK1.out; have := HJ16.out; have := HK3.out; omega
                                      case rel => exact ⟨(y421), (wrap64 (x111_3 + 1)), (by first | rfl | (simp; done) | (simp [*]; done)), H', ⟨by have := HK1.out; have := HJ16.out; have := HK3.out; omega⟩, ⟨by (with_reducible repeat (first | apply Kd.R_alloc | apply Kd.R_drewN | apply Kd.R_drew)); exact HO_10.out⟩, ⟨by (with_reducible repeat (first | apply Kd.R_alloc | apply Kd.R_drewN | apply Kd.R_drew)); exact HO423.out⟩, ⟨by (with_reducible repeat (first | refine blk_drewN ?_ _ | refine blk_drew ?_ | refine blk_alloc ?_ _)); exact BK397.out⟩, ⟨by (with_reducible repeat (first | refine blk_drewN ?_ _ | refine blk_drew ?_ | refine blk_alloc ?_ _)); exact BK410.out⟩, ⟨by repeat (first | (with_reducible first | exact HB.out | apply below_alloc | apply pw_below_drewN | apply below_drew1 | refine below_set ?_ GE397.out | refine below_set ?_ GE410.out) | exact HB.out)⟩⟩
                                    · rw [if_neg c60] at H
                                      exact absurd H (by simp)
                                  · rw [if_neg c58] at H
                                    have c58b0 : (((rd_T33 t405 x111_3).f0) == 3) = false := beq_eq_false_iff_ne.mpr c58
                                    have c58b1 : (((rd_T33 t405 x111_3).f0) != 3) = true := bne_iff_ne.mpr c58
                                    by_cases c64 : y415.length + ((rd_T33 t405 x111_3).f1).size < 140737488355328
                                    · rw [if_pos c64] at H
                                      have LMc64 := Aside0.mk c64
                                      clear c64
                                      obtain ⟨y425, hy425⟩ : ∃ y_ : List Int, y_ = (y415 ++ bytesOf ((rd_T33 t405 x111_3).f1)) := ⟨_, rfl⟩
                                      replace H : (glebelaw8_IsctBack.l1 k3 t405 y425 (t405.length : Int) (wrap64 (x111_3 + 1))) = some r := by first | (rw [hy425]; with_reducible exact H) | (have H2_ := (Option.bind_some _ _).symm.trans H; rw [hy425]; with_reducible exact H2_) | (have H2_ := (Option.bind_some _ _).symm.trans H; with_reducible exact H2_) | with_reducible exact H | (rw [hy425]; exact H) | exact H
                                      have Ny425 := Aside0.mk hy425
                                      clear hy425
                                      have H' := Aside0.mk H
                                      clear H
                                      go_wp2_with (first | (at_builtin; refine print_append_str (w0 := w) w.heap.size rfl (.tmp 114) _ 29 9 5 rfl Try.underlying29 Try.underlying9 info5 u12 x12_3 (⟨#[32, 9, 35, 32, 195, 169, 10]⟩ : ByteArray) rfl rfl ?aO ?aB ?aS ?aL ?_; (case aB => exact (by repeat (first | (with_reducible first | exact HB.out | apply below_alloc | apply pw_below_drewN | apply below_drew1 | refine below_set ?_ GE397.out | refine below_set ?_ GE410.out) | exact HB.out))); (case aO => exact (Kd.own_of_R (by (with_reducible repeat (first | apply Kd.R_alloc | apply Kd.R_drewN | apply Kd.R_drew)); exact HO_12.out))); (case aS => exact (below_size (by repeat (first | (with_reducible first | exact HB.out | apply below_alloc | apply pw_below_drewN | apply below_drew1 | refine below_set ?_ GE397.out | refine below_set ?_ GE410.out) | exact HB.out)))); (case aL => have := LMc55.out; have hlx_ : (⟨#[32, 9, 35, 32, 195, 169, 10]⟩ : ByteArray).size = 7 := (by first | rfl | (simp only [ByteArray.size_append]; rfl)); omega); intro v416 w65 ho0 hb hg; have ho := Kd.R_of_own (h1 := fun _ => rfl) (ok := fun _ => True) ho0 (fun _ _ => trivial); clear ho0; have hat := True.intro; rw [← Ny415.out] at ho; change Kd.R (Kd.int .u8) 5 w65 w.heap.size (fun _ => True) v416 y415 at ho; have n0_ := Aside0.mk (Kd.R_over' (by (with_reducible repeat (first | apply Kd.R_alloc | apply Kd.R_drewN | apply Kd.R_drew)); exact HO_10.out) (Kd.R_typed (by (with_reducible repeat (first | apply Kd.R_alloc | apply Kd.R_drewN | apply Kd.R_drew)); exact HO_12.out)) (by decide) hg); have n1_ := Aside0.mk (blk_grown (g := gb397) (o := .cells #[.int .i64 t395, .int .i64 t396] 26 (0, 0)) (by (with_reducible repeat (first | refine blk_drewN ?_ _ | refine blk_drew ?_ | refine blk_alloc ?_ _)); exact BK397.out) hg (Kd.R_ne HO_12.out BK397.out (by decide))); have n2_ := Aside0.mk (blk_grown (g := gb410) (o := .cells #[.int .i64 t408, .int .i64 t409] 26 (0, 0)) (by (with_reducible repeat (first | refine blk_drewN ?_ _ | refine blk_drew ?_ | refine blk_alloc ?_ _)); exact BK410.out) hg (Kd.R_ne HO_12.out BK410.out (by decide))); have n3_ := Aside0.mk (hb); have n4_ := Aside0.mk (ho); clear HO_10; clear BK397; clear BK410; clear HB; clear HO_12; have HO_10 := n0_; have BK397 := n1_; have BK410 := n2_; have HB := n3_; have HO417 := n4_; clear n0_ n1_ n2_ n3_ n4_; clear ho hb hg hat; have p418 : 0 ≤ (x111_3 : Int) := of_decide_eq_true (by first | (with_reducible assumption) | assumption); have q418 : x111_3 < (t405.length : Int) := of_decide_eq_true (by first | (with_reducible assumption) | assumption); obtain ⟨ad418, e418, hx418_0, hx418_1, hx418_2⟩ := at_T33 (Kd.R_reads' HO_10.out).2.2 x111_3 p418 q418; cases e418; replace p418 := eq_true p418; replace q418 := eq_true q418; have p424 : 0 ≤ (x111_3 : Int) := of_decide_eq_true (by first | (with_reducible assumption) | assumption); have q424 : x111_3 < (t405.length : Int) := of_decide_eq_true (by first | (with_reducible assumption) | assumption); obtain ⟨ad424, e424, hx424_0, hx424_1, hx424_2⟩ := at_T33 (Kd.R_reads' HO_10.out).2.2 x111_3 p424 q424; obtain rfl : ad418 = ad424 := (by injection e424); replace p424 := eq_true p424; replace q424 := eq_true q424) | (at_builtin; refine print_append_str (w0 := w) w.heap.size rfl (.tmp 130) _ 29 9 5 rfl Try.underlying29 Try.underlying9 info5 v416 y415 ((rd_T33 t405 x111_3).f1) rfl rfl ?aO ?aB ?aS ?aL ?_; (case aB => exact (by repeat (first | (with_reducible first | exact HB.out | apply below_alloc | apply pw_below_drewN | apply below_drew1 | refine below_set ?_ GE397.out | refine below_set ?_ GE410.out) | exact HB.out))); (case aO => exact (Kd.own_of_R (by (with_reducible repeat (first | apply Kd.R_alloc | apply Kd.R_drewN | apply Kd.R_drew)); exact HO417.out))); (case aS => exact (below_size (by repeat (first | (with_reducible first | exact HB.out | apply below_alloc | apply pw_below_drewN | apply below_drew1 | refine below_set ?_ GE397.out | refine below_set ?_ GE410.out) | exact HB.out)))); (case aL => have := LMc64.out; omega); intro v426 w66 ho0 hb hg; have ho := Kd.R_of_own (h1 := fun _ => rfl) (ok := fun _ => True) ho0 (fun _ _ => trivial); clear ho0; have hat := True.intro; rw [← Ny425.out] at ho; change Kd.R (Kd.int .u8) 5 w66 w.heap.size (fun _ => True) v426 y425 at ho; have n0_ := Aside0.mk (Kd.R_over' (by (with_reducible repeat (first | apply Kd.R_alloc | apply Kd.R_drewN | apply Kd.R_drew)); exact HO_10.out) (Kd.R_typed (by (with_reducible repeat (first | apply Kd.R_alloc | apply Kd.R_drewN | apply Kd.R_drew)); exact HO417.out)) (by decide) hg); have n1_ := Aside0.mk (blk_grown (g := gb397) (o := .cells #[.int .i64 t395, .int .i64 t396] 26 (0, 0)) (by (with_reducible repeat (first | refine blk_drewN ?_ _ | refine blk_drew ?_ | refine blk_alloc ?_ _)); exact BK397.out) hg (Kd.R_ne HO417.out BK397.out (by decide))); have n2_ := Aside0.mk (blk_grown (g := gb410) (o := .cells #[.int .i64 t408, .int .i64 t409] 26 (0, 0)) (by (with_reducible repeat (first | refine blk_drewN ?_ _ | refine blk_drew ?_ | refine blk_alloc ?_ _)); exact BK410.out) hg (Kd.R_ne HO417.out BK410.out (by decide))); have n3_ := Aside0.mk (hb); have n4_ := Aside0.mk (ho); clear HO_10; clear BK397; clear BK410; clear HB; clear HO417; have HO_10 := n0_; have BK397 := n1_; have BK410 := n2_; have HB := n3_; have HO427 := n4_; clear n0_ n1_ n2_ n3_ n4_; clear ho hb hg hat))
                                      go_roundg k3
                                      case measure => have := HK1.out; have := HJ16.out; have := HK3.out; omega
                                      case rel => exact ⟨(y425), (wrap64 (x111_3 + 1)), (by first | rfl | (simp; done) | (simp [*]; done)), H', ⟨by have := HK1.out; have := HJ16.out; have := HK3.out; omega⟩, ⟨by (with_reducible repeat (first | apply Kd.R_alloc | apply Kd.R_drewN | apply Kd.R_drew)); exact HO_10.out⟩, ⟨by (with_reducible repeat (first | apply Kd.R_alloc | apply Kd.R_drewN | apply Kd.R_drew)); exact HO427.out⟩, ⟨by (with_reducible repeat (first | refine blk_drewN ?_ _ | refine blk_drew ?_ | refine blk_alloc ?_ _)); exact BK397.out⟩, ⟨by (with_reducible repeat (first | refine blk_drewN ?_ _ | refine blk_drew ?_ | refine blk_alloc ?_ _)); exact BK410.out⟩, ⟨by repeat (first | (with_reducible first | exact HB.out | apply below_alloc | apply pw_below_drewN | apply below_drew1 | refine below_set ?_ GE397.out | refine below_set ?_ GE410.out) | exact HB.out)⟩⟩
                                    · rw [if_neg c64] at H
                                      exact absurd H (by simp)
                                · rw [if_neg c57] at H
                                  exact absurd H (by simp)
                              · rw [if_neg c56] at H
                                exact absurd H (by simp)
                            · rw [if_neg c55] at H
                              exact absurd H (by simp)
                          · rw [if_neg c54] at H
                            have c54b0 : decide (x111_3 < (t405.length : Int)) = false := decide_eq_false c54
                            clear c54
                            replace H := Option.bind_eq_some_iff.mp H
                            obtain ⟨⟨t428, t431, t432⟩, A670, H⟩ := H
                            replace H : (if t431 = 0 then (glebelaw8_IsctBack.j3 k3 t405 t428 ((t428.length : Int) != (t405.length : Int))) else (glebelaw8_IsctBack.j3 k3 t405 t428 true)) = some r := H
                            have A67 := Aside0.mk A670
                            clear A670
                            have HC68 := Aside0.mk H
                            clear H
                            obtain ⟨Ao69, co69, eo69⟩ := Kd.R_slice HO_12.out
                            subst eo69
                            go_upto_region 25 with (first | ((with_reducible refine gate_callee (f := 14) rfl ?_); refine goesL_ (some 140) rfl rfl Try.func14 (by kernel_rfl) rfl #[.slice Ao69 x12_3.length co69] rfl (by (try simp only [List.map_toArray, List.map_cons, List.map_nil]); first | done | rfl | (simp only [List.length_drop, List.length_take]; rfl)) ?_; (with_reducible refine (isct_Tokens.calls k3 _ _ x12_3 t428 t431 t432 _ ?side1 ?side2 A67.out).mono ?_); (case side1 => repeat (first | exact (Kd.R_reads' HO_12.out).2.2 | (with_reducible refine Kd.C_alloc ?_ _) | (with_reducible refine Kd.C_drewN ?_ _) | (with_reducible refine Kd.C_drew ?_))); (case side2 => exact (Kd.R_reads' HO_12.out).2.1); rintro e w70 ⟨v429, rfl, ho0, hb⟩; refine ⟨_, rfl, ?_⟩; have n0_ := Aside0.mk (Kd.R_elder' (by (with_reducible repeat (first | apply Kd.R_alloc | apply Kd.R_drewN | apply Kd.R_drew)); exact HO_10.out) (Kd.R_base ho0) hb); have n1_ := Aside0.mk (Kd.R_below (by (with_reducible repeat (first | apply Kd.R_alloc | apply Kd.R_drewN | apply Kd.R_drew)); exact HO_12.out) hb); have n2_ := Aside0.mk (Kd.R_lower (Kd.R_new' ho0 (Kd.R_lt (by (with_reducible repeat (first | apply Kd.R_alloc | apply Kd.R_drewN | apply Kd.R_drew)); exact HO_10.out))) (below_size (by repeat (first | (with_reducible first | exact HB.out | apply below_alloc | apply pw_below_drewN | apply below_drew1 | refine below_set ?_ GE397.out | refine below_set ?_ GE410.out) | exact HB.out)))); have n3_ := Aside0.mk (blk_below (g := gb397) (o := .cells #[.int .i64 t395, .int .i64 t396] 26 (0, 0)) (by (with_reducible repeat (first | refine blk_drewN ?_ _ | refine blk_drew ?_ | refine blk_alloc ?_ _)); exact BK397.out) hb); have n4_ := Aside0.mk (blk_below (g := gb410) (o := .cells #[.int .i64 t408, .int .i64 t409] 26 (0, 0)) (by (with_reducible repeat (first | refine blk_drewN ?_ _ | refine blk_drew ?_ | refine blk_alloc ?_ _)); exact BK410.out) hb); have n5_ := Aside0.mk (below_step (by repeat (first | (with_reducible first | exact HB.out | apply below_alloc | apply pw_below_drewN | apply below_drew1 | refine below_set ?_ GE397.out | refine below_set ?_ GE410.out) | exact HB.out)) hb); clear HO_10; clear HO_12; clear BK397; clear BK410; clear HB; have HO_10 := n0_; have HO_12 := n1_; have HO430 := n2_; have BK397 := n3_; have BK410 := n4_; have HB := n5_; clear n0_ n1_ n2_ n3_ n4_ n5_; (try clear hb); (try clear hb2); (try clear hk); (try clear hi); (try clear ho0)) | ((with_reducible refine gate_dst (N := 15) rfl ?_); (try (refine gate_guard (by rfl) ?_; dsimp only)); refine box_event ?hg (N := 15) ?hd (cs := #[.int .i64 0, .int .i64 0]) (t := 26) ?hr ?_; (case hd => rfl); (case hg => rfl); (case hr => first | (go_simp; done) | (go_simp; rfl)); intro gb433 hg w71 hbox hb; have n0_ := Aside0.mk (Kd.R_below (by (with_reducible repeat (first | apply Kd.R_alloc | apply Kd.R_drewN | apply Kd.R_drew)); exact HO_10.out) hb); have n1_ := Aside0.mk (Kd.R_below (by (with_reducible repeat (first | apply Kd.R_alloc | apply Kd.R_drewN | apply Kd.R_drew)); exact HO_12.out) hb); have n2_ := Aside0.mk (Kd.R_below (by (with_reducible repeat (first | apply Kd.R_alloc | apply Kd.R_drewN | apply Kd.R_drew)); exact HO430.out) hb); have n3_ := Aside0.mk (blk_below (g := gb397) (o := .cells #[.int .i64 t395, .int .i64 t396] 26 (0, 0)) (by (with_reducible repeat (first | refine blk_drewN ?_ _ | refine blk_drew ?_ | refine blk_alloc ?_ _)); exact BK397.out) hb); have n4_ := Aside0.mk (blk_below (g := gb410) (o := .cells #[.int .i64 t408, .int .i64 t409] 26 (0, 0)) (by (with_reducible repeat (first | refine blk_drewN ?_ _ | refine blk_drew ?_ | refine blk_alloc ?_ _)); exact BK410.out) hb); have n5_ := Aside0.mk (below_step (by repeat (first | (with_reducible first | exact HB.out | apply below_alloc | apply pw_below_drewN | apply below_drew1 | refine below_set ?_ GE397.out | refine below_set ?_ GE410.out) | exact HB.out)) hb); have n6_ := Aside0.mk (hbox); have n7_ := Aside0.mk ((by rw [hg]; exact (below_size (by repeat (first | (with_reducible first | exact HB.out | apply below_alloc | apply pw_below_drewN | apply below_drew1 | refine below_set ?_ GE397.out | refine below_set ?_ GE410.out) | exact HB.out))) : w.heap.size ≤ gb433)); have n8_ := Aside0.mk ((by rw [hg]; exact (below_size (by repeat (first | (with_reducible first | exact HB.out | apply below_alloc | apply pw_below_drewN | apply below_drew1 | refine below_set ?_ GE397.out | refine below_set ?_ GE410.out) | exact HB.out))) : w.heap.size ≤ gb433)); have n9_ := Aside0.mk ((by rw [hg]; exact Nat.ne_of_lt (blk_lt (g := gb397) (o := .cells #[.int .i64 t395, .int .i64 t396] 26 (0, 0)) (by (with_reducible repeat (first | refine blk_drewN ?_ _ | refine blk_drew ?_ | refine blk_alloc ?_ _)); exact BK397.out)) : gb397 ≠ gb433)); have n10_ := Aside0.mk ((by rw [hg]; exact Nat.ne_of_gt (blk_lt (g := gb397) (o := .cells #[.int .i64 t395, .int .i64 t396] 26 (0, 0)) (by (with_reducible repeat (first | refine blk_drewN ?_ _ | refine blk_drew ?_ | refine blk_alloc ?_ _)); exact BK397.out)) : gb433 ≠ gb397)); have n11_ := Aside0.mk ((by rw [hg]; exact Nat.ne_of_lt (blk_lt (g := gb410) (o := .cells #[.int .i64 t408, .int .i64 t409] 26 (0, 0)) (by (with_reducible repeat (first | refine blk_drewN ?_ _ | refine blk_drew ?_ | refine blk_alloc ?_ _)); exact BK410.out)) : gb410 ≠ gb433)); have n12_ := Aside0.mk ((by rw [hg]; exact Nat.ne_of_gt (blk_lt (g := gb410) (o := .cells #[.int .i64 t408, .int .i64 t409] 26 (0, 0)) (by (with_reducible repeat (first | refine blk_drewN ?_ _ | refine blk_drew ?_ | refine blk_alloc ?_ _)); exact BK410.out)) : gb433 ≠ gb410)); clear HO_10; clear HO_12; clear HO430; clear BK397; clear BK410; clear HB; have HO_10 := n0_; have HO_12 := n1_; have HO430 := n2_; have BK397 := n3_; have BK410 := n4_; have HB := n5_; have BK433 := n6_; have GW433 := n7_; have GE433 := n8_; have NB397_433 := n9_; have NB433_397 := n10_; have NB410_433 := n11_; have NB433_410 := n12_; clear n0_ n1_ n2_ n3_ n4_ n5_ n6_ n7_ n8_ n9_ n10_ n11_ n12_; clear hb hbox hg; have hnb72 := NB433_397.out; have hnc72 := NB397_433.out; have hnb73 := NB433_410.out; have hnc73 := NB410_433.out; have hcz74_0 : w71.cell? ⟨gb433, 0, none⟩ = some (.int .i64 0) := (blk_cell BK433.out 0).trans rfl; have hcz74_1 : w71.cell? ⟨gb433, 1, none⟩ = some (.int .i64 0) := (blk_cell BK433.out 1).trans rfl; have hfz74_0 := blk_frozen BK433.out 0; have hfz74_1 := blk_frozen BK433.out 1))
                            (try simp only [Act.put, List.setIfInBounds_toArray, List.set_cons_zero, List.set_cons_succ])
                            go_cut [152] (fun v152 wc => ∃ (kq : Nat) (x152_67 : Bool), v152 = .bool x152_67 ∧ Aside0 (glebelaw8_IsctBack.j3 kq t405 t428 x152_67 = some r) ∧ Aside0 (kq ≤ k3) ∧ Aside0 (Kd.R k33 33 wc w.heap.size (fun k_ => some k_ ≠ (v429 : Value).ownBlock) (.slice Ao53 t405.length co53) t405) ∧ Aside0 (Kd.R k33 33 wc w.heap.size (fun k_ => some k_ ≠ ((.slice Ao53 t405.length co53) : Value).ownBlock) v429 t428) ∧ Aside0 (wc.heap[gb397]? = some (.cells #[.int .i64 t395, .int .i64 t396] 26 (0, 0))) ∧ Aside0 (wc.heap[gb410]? = some (.cells #[.int .i64 t408, .int .i64 t409] 26 (0, 0))) ∧ Aside0 (wc.heap[gb433]? = some (.cells #[.int .i64 t431, .int .i64 t432] 26 (0, 0))) ∧ Aside0 (Below w.heap.size w wc))
                            case first =>
                              have H := HC68.out
                              clear HC68
                              by_cases c75 : t431 = 0
                              · rw [if_pos c75] at H
                                have c75b0 : (t431 == 0) = true := beq_iff_eq.mpr c75
                                have c75b1 : (t431 != 0) = false := bne_eq_false_iff_eq.mpr c75
                                clear c75
                                (first | rw [c75b0] | (simp only [i64_w, i32_w]; rw [c75b0]) | skip)
                                have H' := Aside0.mk H
                                clear H
                                have hnb76 := NB433_397.out
                                have hnc76 := NB397_433.out
                                have hnb77 := NB433_410.out
                                have hnc77 := NB410_433.out
                                have hcz78_0 : w71.cell? ⟨gb433, 0, none⟩ = some (.int .i64 0) := (blk_cell BK433.out 0).trans rfl
                                have hcz78_1 : w71.cell? ⟨gb433, 1, none⟩ = some (.int .i64 0) := (blk_cell BK433.out 1).trans rfl
                                have hfz78_0 := blk_frozen BK433.out 0
                                have hfz78_1 := blk_frozen BK433.out 1
                                obtain ⟨Ao79, co79, eo79⟩ := Kd.R_slice HO430.out
                                subst eo79
                                go_wp2
                                go_meet
                                case rel => exact ⟨_, (((t428.length : Int) != (t405.length : Int))), (by first | rfl | (simp; done) | (simp [*]; done)), H', ⟨by have := HK1.out; have := HJ16.out; have := HK3.out; first | omega | exact Nat.le_refl _⟩, ⟨by (with_reducible repeat (first | apply Kd.R_alloc | apply Kd.R_drewN | apply Kd.R_drew)); exact Kd.R_mono (Kd.R_far (p := ⟨gb433, 1, none⟩) (Kd.R_far (p := ⟨gb433, 0, none⟩) (Kd.R_types HO_10.out BK433.out (by decide)) (fun _ hk => hk.2) (.int .i64 t431)) (fun _ hk => hk.2) (.int .i64 t432)) (fun _ hk => hk.1.2)⟩, ⟨by (with_reducible repeat (first | apply Kd.R_alloc | apply Kd.R_drewN | apply Kd.R_drew)); exact Kd.R_mono (Kd.R_far (p := ⟨gb433, 1, none⟩) (Kd.R_far (p := ⟨gb433, 0, none⟩) (Kd.R_types HO430.out BK433.out (by decide)) (fun _ hk => hk.2) (.int .i64 t431)) (fun _ hk => hk.2) (.int .i64 t432)) (fun _ hk => hk.1.2)⟩, ⟨by (with_reducible repeat (first | refine blk_drewN ?_ _ | refine blk_drew ?_ | refine blk_alloc ?_ _)); refine blk_far ?_ NB397_433.out _; (with_reducible repeat (first | refine blk_drewN ?_ _ | refine blk_drew ?_ | refine blk_alloc ?_ _)); refine blk_far ?_ NB397_433.out _; (with_reducible repeat (first | refine blk_drewN ?_ _ | refine blk_drew ?_ | refine blk_alloc ?_ _)); exact BK397.out⟩, ⟨by (with_reducible repeat (first | refine blk_drewN ?_ _ | refine blk_drew ?_ | refine blk_alloc ?_ _)); refine blk_far ?_ NB410_433.out _; (with_reducible repeat (first | refine blk_drewN ?_ _ | refine blk_drew ?_ | refine blk_alloc ?_ _)); refine blk_far ?_ NB410_433.out _; (with_reducible repeat (first | refine blk_drewN ?_ _ | refine blk_drew ?_ | refine blk_alloc ?_ _)); exact BK410.out⟩, ⟨by (with_reducible repeat (first | refine blk_drewN ?_ _ | refine blk_drew ?_ | refine blk_alloc ?_ _)); refine blk_put (cs := #[.int .i64 t431, .int .i64 0]) ?_ 1 _ rfl; (with_reducible repeat (first | refine blk_drewN ?_ _ | refine blk_drew ?_ | refine blk_alloc ?_ _)); refine blk_put (cs := #[.int .i64 0, .int .i64 0]) ?_ 0 _ rfl; (with_reducible repeat (first | refine blk_drewN ?_ _ | refine blk_drew ?_ | refine blk_alloc ?_ _)); exact BK433.out⟩, ⟨by repeat (first | (with_reducible first | exact HB.out | apply below_alloc | apply pw_below_drewN | apply below_drew1 | refine below_set ?_ GE397.out | refine below_set ?_ GE410.out | refine below_set ?_ GE433.out) | exact HB.out)⟩⟩
                              · rw [if_neg c75] at H
                                have c75b0 : (t431 == 0) = false := beq_eq_false_iff_ne.mpr c75
                                have c75b1 : (t431 != 0) = true := bne_iff_ne.mpr c75
                                (first | rw [c75b0] | (simp only [i64_w, i32_w]; rw [c75b0]) | skip)
                                have H' := Aside0.mk H
                                clear H
                                have hnb80 := NB433_397.out
                                have hnc80 := NB397_433.out
                                have hnb81 := NB433_410.out
                                have hnc81 := NB410_433.out
                                have hcz82_0 : w71.cell? ⟨gb433, 0, none⟩ = some (.int .i64 0) := (blk_cell BK433.out 0).trans rfl
                                have hcz82_1 : w71.cell? ⟨gb433, 1, none⟩ = some (.int .i64 0) := (blk_cell BK433.out 1).trans rfl
                                have hfz82_0 := blk_frozen BK433.out 0
                                have hfz82_1 := blk_frozen BK433.out 1
                                go_wp2
                                go_meet
                                case rel => exact ⟨_, (true), (by first | rfl | (simp; done) | (simp [*]; done)), H', ⟨by have := HK1.out; have := HJ16.out; have := HK3.out; first | omega | exact Nat.le_refl _⟩, ⟨by (with_reducible repeat (first | apply Kd.R_alloc | apply Kd.R_drewN | apply Kd.R_drew)); exact Kd.R_mono (Kd.R_far (p := ⟨gb433, 1, none⟩) (Kd.R_far (p := ⟨gb433, 0, none⟩) (Kd.R_types HO_10.out BK433.out (by decide)) (fun _ hk => hk.2) (.int .i64 t431)) (fun _ hk => hk.2) (.int .i64 t432)) (fun _ hk => hk.1.2)⟩, ⟨by (with_reducible repeat (first | apply Kd.R_alloc | apply Kd.R_drewN | apply Kd.R_drew)); exact Kd.R_mono (Kd.R_far (p := ⟨gb433, 1, none⟩) (Kd.R_far (p := ⟨gb433, 0, none⟩) (Kd.R_types HO430.out BK433.out (by decide)) (fun _ hk => hk.2) (.int .i64 t431)) (fun _ hk => hk.2) (.int .i64 t432)) (fun _ hk => hk.1.2)⟩, ⟨by (with_reducible repeat (first | refine blk_drewN ?_ _ | refine blk_drew ?_ | refine blk_alloc ?_ _)); refine blk_far ?_ NB397_433.out _; (with_reducible repeat (first | refine blk_drewN ?_ _ | refine blk_drew ?_ | refine blk_alloc ?_ _)); refine blk_far ?_ NB397_433.out _; (with_reducible repeat (first | refine blk_drewN ?_ _ | refine blk_drew ?_ | refine blk_alloc ?_ _)); exact BK397.out⟩, ⟨by (with_reducible repeat (first | refine blk_drewN ?_ _ | refine blk_drew ?_ | refine blk_alloc ?_ _)); refine blk_far ?_ NB410_433.out _; (with_reducible repeat (first | refine blk_drewN ?_ _ | refine blk_drew ?_ | refine blk_alloc ?_ _)); refine blk_far ?_ NB410_433.out _; (with_reducible repeat (first | refine blk_drewN ?_ _ | refine blk_drew ?_ | refine blk_alloc ?_ _)); exact BK410.out⟩, ⟨by (with_reducible repeat (first | refine blk_drewN ?_ _ | refine blk_drew ?_ | refine blk_alloc ?_ _)); refine blk_put (cs := #[.int .i64 t431, .int .i64 0]) ?_ 1 _ rfl; (with_reducible repeat (first | refine blk_drewN ?_ _ | refine blk_drew ?_ | refine blk_alloc ?_ _)); refine blk_put (cs := #[.int .i64 0, .int .i64 0]) ?_ 0 _ rfl; (with_reducible repeat (first | refine blk_drewN ?_ _ | refine blk_drew ?_ | refine blk_alloc ?_ _)); exact BK433.out⟩, ⟨by repeat (first | (with_reducible first | exact HB.out | apply below_alloc | apply pw_below_drewN | apply below_drew1 | refine below_set ?_ GE397.out | refine below_set ?_ GE410.out | refine below_set ?_ GE433.out) | exact HB.out)⟩⟩
                            case rest =>
                              clear HC68
                              try clear c1
                              try clear hcv1
                              try clear c2
                              try clear p2
                              try clear c3
                              try clear c3b0
                              try clear c3b1
                              try clear p3
                              try clear q3
                              try clear hx3
                              try clear qi3
                              try clear c4
                              try clear p4
                              try clear q4
                              try clear hx4
                              try clear qi4
                              try clear c5
                              try clear c6
                              try clear c6b0
                              try clear p6
                              try clear c7
                              try clear c7b0
                              try clear c8
                              try clear c8b0
                              try clear c9
                              try clear c9b0
                              try clear c9b1
                              try clear c9b2
                              try clear hcv12
                              try clear c14
                              try clear c14b0
                              try clear c14b1
                              try clear c14b2
                              try clear c15
                              try clear c15b0
                              try clear c15b1
                              try clear c15b2
                              try clear c16
                              try clear c19
                              try clear c25
                              try clear c25b0
                              try clear c25b1
                              try clear c26
                              try clear c26b0
                              try clear c26b1
                              try clear c27
                              try clear c27b0
                              try clear c27b1
                              try clear c28
                              try clear c28b0
                              try clear c28b1
                              try clear c29
                              try clear c29b0
                              try clear c29b1
                              try clear c30
                              try clear c30b0
                              try clear c30b1
                              try clear c31
                              try clear c31b0
                              try clear c31b1
                              try clear p38
                              try clear q38
                              try clear hx38
                              try clear p39
                              try clear q39
                              try clear hx39
                              try clear qi39
                              try clear p40
                              try clear q40
                              try clear hx40
                              try clear qi40
                              try clear p41
                              try clear q41
                              try clear hx41
                              try clear p42
                              try clear q42
                              try clear hx42
                              try clear c43
                              try clear c46
                              try clear c46b0
                              try clear c46b1
                              try clear c51
                              try clear c54
                              try clear c54b0
                              try clear c55
                              try clear c56
                              try clear c56b0
                              try clear c57
                              try clear c57b0
                              try clear c58
                              try clear c58b0
                              try clear c58b1
                              try clear c60
                              try clear c64
                              try clear p64
                              try clear c72
                              try clear c73
                              try clear c75
                              try clear c75b0
                              try clear c75b1
                              try clear c76
                              try clear c77
                              try clear c80
                              try clear c81
                              try clear hcz24_0
                              try clear hcz24_1
                              try clear hcz32_0
                              try clear hcz32_1
                              try clear hcz34_0
                              try clear hcz34_1
                              try clear hcz36_0
                              try clear hcz36_1
                              try clear hcz38_0
                              try clear hcz38_1
                              try clear hcz40_0
                              try clear hcz40_1
                              try clear hcz42_0
                              try clear hcz42_1
                              try clear hcz52_0
                              try clear hcz52_1
                              try clear hcz74_0
                              try clear hcz74_1
                              try clear hcz78_0
                              try clear hcz78_1
                              try clear hcz82_0
                              try clear hcz82_1
                              try clear hfz24_0
                              try clear hfz24_1
                              try clear hfz32_0
                              try clear hfz32_1
                              try clear hfz34_0
                              try clear hfz34_1
                              try clear hfz36_0
                              try clear hfz36_1
                              try clear hfz38_0
                              try clear hfz38_1
                              try clear hfz40_0
                              try clear hfz40_1
                              try clear hfz42_0
                              try clear hfz42_1
                              try clear hfz52_0
                              try clear hfz52_1
                              try clear hfz74_0
                              try clear hfz74_1
                              try clear hfz78_0
                              try clear hfz78_1
                              try clear hfz82_0
                              try clear hfz82_1
                              try clear hx384_0
                              try clear hx398_0
                              try clear hx398_1
                              try clear hx398_2
                              try clear hx399_0
                              try clear hx399_1
                              try clear hx399_2
                              try clear hx400_0
                              try clear hx400_1
                              try clear hx400_2
                              try clear hx401_0
                              try clear hx401_1
                              try clear hx401_2
                              try clear hx418_0
                              try clear hx418_1
                              try clear hx418_2
                              try clear hx419_0
                              try clear hx419_1
                              try clear hx419_2
                              try clear hx424_0
                              try clear hx424_1
                              try clear hx424_2
                              try clear p2
                              try clear p3
                              try clear p38
                              try clear p384
                              try clear p39
                              try clear p398
                              try clear p399
                              try clear p4
                              try clear p40
                              try clear p400
                              try clear p401
                              try clear p418
                              try clear p419
                              try clear p424
                              try clear p6
                              try clear q3
                              try clear q38
                              try clear q384
                              try clear q39
                              try clear q398
                              try clear q399
                              try clear q4
                              try clear q40
                              try clear q400
                              try clear q401
                              try clear q418
                              try clear q419
                              try clear q424
                              obtain ⟨kq, x152_67, rfl, HA, HJ67, HO_10, HO_14, BK397, BK410, BK433, HB⟩ := hcut
                              cases kq with
                              | zero => exact absurd HA.out (by simp [glebelaw8_IsctBack.j3])
                              | succ kj67 =>
                                have H := HA.out
                                clear HA
                                simp only [glebelaw8_IsctBack.j3] at H
                                by_cases c83 : x152_67 = true
                                · subst c83
                                  have H1 : (none) = some r := by rw [if_pos rfl] at H; exact H
                                  clear H
                                  have H := H1
                                  clear H1
                                  exact absurd H (by simp)
                                · replace c83 := Bool.eq_false_iff.mpr c83
                                  subst c83
                                  have H1 : (glebelaw8_IsctBack.l2 kj67 t405 t428 (t428.length : Int) 0) = some r := by rw [if_neg (show ¬ (false = true) by decide)] at H; exact H
                                  clear H
                                  have H := H1
                                  clear H1
                                  have H' := Aside0.mk H
                                  clear H
                                  obtain ⟨Ao84, co84, eo84⟩ := Kd.R_slice HO_14.out
                                  subst eo84
                                  go_wp2
                                  go_loopg [155] kj67 (fun kq v155 w' => ∃ (x155_5 : Int), v155 = .int .i64 x155_5 ∧ Aside0 (glebelaw8_IsctBack.l2 kq t405 t428 (t428.length : Int) x155_5 = some r) ∧ Aside0 (kq ≤ kj67) ∧ Aside0 (Kd.R k33 33 w' w.heap.size (fun k_ => some k_ ≠ ((.slice Ao84 t428.length co84) : Value).ownBlock) (.slice Ao53 t405.length co53) t405) ∧ Aside0 (Kd.R k33 33 w' w.heap.size (fun k_ => some k_ ≠ ((.slice Ao53 t405.length co53) : Value).ownBlock) (.slice Ao84 t428.length co84) t428) ∧ Aside0 (w'.heap[gb397]? = some (.cells #[.int .i64 t395, .int .i64 t396] 26 (0, 0))) ∧ Aside0 (w'.heap[gb410]? = some (.cells #[.int .i64 t408, .int .i64 t409] 26 (0, 0))) ∧ Aside0 (w'.heap[gb433]? = some (.cells #[.int .i64 t431, .int .i64 t432] 26 (0, 0))) ∧ Aside0 (Below w.heap.size w w'))
                                  case atStart => exact ⟨(0), (by first | rfl | (simp; done) | (simp [*]; done)), H', ⟨Nat.le_refl _⟩, ⟨by (with_reducible repeat (first | apply Kd.R_alloc | apply Kd.R_drewN | apply Kd.R_drew)); exact HO_10.out⟩, ⟨by (with_reducible repeat (first | apply Kd.R_alloc | apply Kd.R_drewN | apply Kd.R_drew)); exact HO_14.out⟩, ⟨by (with_reducible repeat (first | refine blk_drewN ?_ _ | refine blk_drew ?_ | refine blk_alloc ?_ _)); exact BK397.out⟩, ⟨by (with_reducible repeat (first | refine blk_drewN ?_ _ | refine blk_drew ?_ | refine blk_alloc ?_ _)); exact BK410.out⟩, ⟨by (with_reducible repeat (first | refine blk_drewN ?_ _ | refine blk_drew ?_ | refine blk_alloc ?_ _)); exact BK433.out⟩, ⟨by repeat (first | (with_reducible first | exact HB.out | apply below_alloc | apply pw_below_drewN | apply below_drew1 | refine below_set ?_ GE397.out | refine below_set ?_ GE410.out | refine below_set ?_ GE433.out) | exact HB.out)⟩⟩
                                  case round =>
                                    clear H'
                                    try clear c1
                                    try clear hcv1
                                    try clear c2
                                    try clear p2
                                    try clear c3
                                    try clear c3b0
                                    try clear c3b1
                                    try clear p3
                                    try clear q3
                                    try clear hx3
                                    try clear qi3
                                    try clear c4
                                    try clear p4
                                    try clear q4
                                    try clear hx4
                                    try clear qi4
                                    try clear c5
                                    try clear c6
                                    try clear c6b0
                                    try clear p6
                                    try clear c7
                                    try clear c7b0
                                    try clear c8
                                    try clear c8b0
                                    try clear c9
                                    try clear c9b0
                                    try clear c9b1
                                    try clear c9b2
                                    try clear hcv12
                                    try clear c14
                                    try clear c14b0
                                    try clear c14b1
                                    try clear c14b2
                                    try clear c15
                                    try clear c15b0
                                    try clear c15b1
                                    try clear c15b2
                                    try clear c16
                                    try clear c19
                                    try clear c25
                                    try clear c25b0
                                    try clear c25b1
                                    try clear c26
                                    try clear c26b0
                                    try clear c26b1
                                    try clear c27
                                    try clear c27b0
                                    try clear c27b1
                                    try clear c28
                                    try clear c28b0
                                    try clear c28b1
                                    try clear c29
                                    try clear c29b0
                                    try clear c29b1
                                    try clear c30
                                    try clear c30b0
                                    try clear c30b1
                                    try clear c31
                                    try clear c31b0
                                    try clear c31b1
                                    try clear p38
                                    try clear q38
                                    try clear hx38
                                    try clear p39
                                    try clear q39
                                    try clear hx39
                                    try clear qi39
                                    try clear p40
                                    try clear q40
                                    try clear hx40
                                    try clear qi40
                                    try clear p41
                                    try clear q41
                                    try clear hx41
                                    try clear p42
                                    try clear q42
                                    try clear hx42
                                    try clear c43
                                    try clear c46
                                    try clear c46b0
                                    try clear c46b1
                                    try clear c51
                                    try clear c54
                                    try clear c54b0
                                    try clear c55
                                    try clear c56
                                    try clear c56b0
                                    try clear c57
                                    try clear c57b0
                                    try clear c58
                                    try clear c58b0
                                    try clear c58b1
                                    try clear c60
                                    try clear c64
                                    try clear p64
                                    try clear c72
                                    try clear c73
                                    try clear c75
                                    try clear c75b0
                                    try clear c75b1
                                    try clear c76
                                    try clear c77
                                    try clear c80
                                    try clear c81
                                    try clear c83
                                    try clear hcz24_0
                                    try clear hcz24_1
                                    try clear hcz32_0
                                    try clear hcz32_1
                                    try clear hcz34_0
                                    try clear hcz34_1
                                    try clear hcz36_0
                                    try clear hcz36_1
                                    try clear hcz38_0
                                    try clear hcz38_1
                                    try clear hcz40_0
                                    try clear hcz40_1
                                    try clear hcz42_0
                                    try clear hcz42_1
                                    try clear hcz52_0
                                    try clear hcz52_1
                                    try clear hcz74_0
                                    try clear hcz74_1
                                    try clear hcz78_0
                                    try clear hcz78_1
                                    try clear hcz82_0
                                    try clear hcz82_1
                                    try clear hfz24_0
                                    try clear hfz24_1
                                    try clear hfz32_0
                                    try clear hfz32_1
                                    try clear hfz34_0
                                    try clear hfz34_1
                                    try clear hfz36_0
                                    try clear hfz36_1
                                    try clear hfz38_0
                                    try clear hfz38_1
                                    try clear hfz40_0
                                    try clear hfz40_1
                                    try clear hfz42_0
                                    try clear hfz42_1
                                    try clear hfz52_0
                                    try clear hfz52_1
                                    try clear hfz74_0
                                    try clear hfz74_1
                                    try clear hfz78_0
                                    try clear hfz78_1
                                    try clear hfz82_0
                                    try clear hfz82_1
                                    try clear hx384_0
                                    try clear hx398_0
                                    try clear hx398_1
                                    try clear hx398_2
                                    try clear hx399_0
                                    try clear hx399_1
                                    try clear hx399_2
                                    try clear hx400_0
                                    try clear hx400_1
                                    try clear hx400_2
                                    try clear hx401_0
                                    try clear hx401_1
                                    try clear hx401_2
                                    try clear hx418_0
                                    try clear hx418_1
                                    try clear hx418_2
                                    try clear hx419_0
                                    try clear hx419_1
                                    try clear hx419_2
                                    try clear hx424_0
                                    try clear hx424_1
                                    try clear hx424_2
                                    try clear p2
                                    try clear p3
                                    try clear p38
                                    try clear p384
                                    try clear p39
                                    try clear p398
                                    try clear p399
                                    try clear p4
                                    try clear p40
                                    try clear p400
                                    try clear p401
                                    try clear p41
                                    try clear p418
                                    try clear p419
                                    try clear p42
                                    try clear p424
                                    try clear p6
                                    try clear p64
                                    try clear q3
                                    try clear q38
                                    try clear q384
                                    try clear q39
                                    try clear q398
                                    try clear q399
                                    try clear q4
                                    try clear q40
                                    try clear q400
                                    try clear q401
                                    try clear q41
                                    try clear q418
                                    try clear q419
                                    try clear q42
                                    try clear q424
                                    obtain ⟨x155_5, rfl, HA, HK5, HO_10, HO_14, BK397, BK410, BK433, HB⟩ := hrel
                                    cases gk with
                                    | zero => exact absurd HA.out (by simp [glebelaw8_IsctBack.l2])
                                    | succ k5 =>
                                      have H := HA.out
                                      clear HA
                                      simp only [glebelaw8_IsctBack.l2] at H
                                      by_cases c85 : x155_5 < (t428.length : Int)
                                      · rw [if_pos c85] at H
                                        have c85b0 : decide (x155_5 < (t428.length : Int)) = true := decide_eq_true c85
                                        clear c85
                                        by_cases c86 : 0 ≤ x155_5
                                        · rw [if_pos c86] at H
                                          have c86b0 : decide (0 ≤ x155_5) = true := decide_eq_true c86
                                          clear c86
                                          by_cases c87 : x155_5 < (t428.length : Int)
                                          · rw [if_pos c87] at H
                                            have c87b0 : decide (x155_5 < (t428.length : Int)) = true := decide_eq_true c87
                                            clear c87
                                            by_cases c88 : x155_5 < (t405.length : Int)
                                            · rw [if_pos c88] at H
                                              have c88b0 : decide (x155_5 < (t405.length : Int)) = true := decide_eq_true c88
                                              clear c88
                                              by_cases c89 : ((rd_T33 t428 x155_5).f0) = ((rd_T33 t405 x155_5).f0)
                                              · rw [if_pos c89] at H
                                                have c89b0 : (((rd_T33 t428 x155_5).f0) == ((rd_T33 t405 x155_5).f0)) = true := beq_iff_eq.mpr c89
                                                have c89b1 : (((rd_T33 t428 x155_5).f0) != ((rd_T33 t405 x155_5).f0)) = false := bne_eq_false_iff_eq.mpr c89
                                                clear c89
                                                by_cases c90 : ((rd_T33 t428 x155_5).f1).toList = ((rd_T33 t405 x155_5).f1).toList
                                                · rw [if_pos c90] at H
                                                  have c90b0 : (((rd_T33 t428 x155_5).f1).toList == ((rd_T33 t405 x155_5).f1).toList) = true := beq_iff_eq.mpr c90
                                                  have c90b1 : (((rd_T33 t428 x155_5).f1).toList != ((rd_T33 t405 x155_5).f1).toList) = false := bne_eq_false_iff_eq.mpr c90
                                                  clear c90
                                                  have H' := Aside0.mk H
                                                  clear H
                                                  try go_wp2
                                                  have n0_ := Aside0.mk (Kd.R_drew HO_10.out)
                                                  have n1_ := Aside0.mk (Kd.R_drew HO_14.out)
                                                  have n2_ := Aside0.mk (blk_drew BK397.out)
                                                  have n3_ := Aside0.mk (blk_drew BK410.out)
                                                  have n4_ := Aside0.mk (blk_drew BK433.out)
                                                  have n5_ := Aside0.mk (below_drew1 HB.out)
                                                  clear HO_10
                                                  clear HO_14
                                                  clear BK397
                                                  clear BK410
                                                  clear BK433
                                                  clear HB
                                                  have HO_10 := n0_
                                                  have HO_14 := n1_
                                                  have BK397 := n2_
                                                  have BK410 := n3_
                                                  have BK433 := n4_
                                                  have HB := n5_
                                                  clear n0_ n1_ n2_ n3_ n4_ n5_
                                                  have p434 : 0 ≤ (x155_5 : Int) := of_decide_eq_true (by first | (with_reducible assumption) | assumption)
                                                  have q434 : x155_5 < (t428.length : Int) := of_decide_eq_true (by first | (with_reducible assumption) | assumption)
                                                  obtain ⟨ad434, e434, hx434_0, hx434_1, hx434_2⟩ := at_T33 (Kd.R_reads' HO_14.out).2.2 x155_5 p434 q434
                                                  cases e434
                                                  replace p434 := eq_true p434
                                                  replace q434 := eq_true q434
                                                  have p435 : 0 ≤ (x155_5 : Int) := of_decide_eq_true (by first | (with_reducible assumption) | assumption)
                                                  have q435 : x155_5 < (t405.length : Int) := of_decide_eq_true (by first | (with_reducible assumption) | assumption)
                                                  obtain ⟨ad435, e435, hx435_0, hx435_1, hx435_2⟩ := at_T33 (Kd.R_reads' HO_10.out).2.2 x155_5 p435 q435
                                                  cases e435
                                                  replace p435 := eq_true p435
                                                  replace q435 := eq_true q435
                                                  have p436 : 0 ≤ (x155_5 : Int) := of_decide_eq_true (by first | (with_reducible assumption) | assumption)
                                                  have q436 : x155_5 < (t428.length : Int) := of_decide_eq_true (by first | (with_reducible assumption) | assumption)
                                                  obtain ⟨ad436, e436, hx436_0, hx436_1, hx436_2⟩ := at_T33 (Kd.R_reads' HO_14.out).2.2 x155_5 p436 q436
                                                  obtain rfl : ad434 = ad436 := (by injection e436)
                                                  replace p436 := eq_true p436
                                                  replace q436 := eq_true q436
                                                  have p437 : 0 ≤ (x155_5 : Int) := of_decide_eq_true (by first | (with_reducible assumption) | assumption)
                                                  have q437 : x155_5 < (t405.length : Int) := of_decide_eq_true (by first | (with_reducible assumption) | assumption)
                                                  obtain ⟨ad437, e437, hx437_0, hx437_1, hx437_2⟩ := at_T33 (Kd.R_reads' HO_10.out).2.2 x155_5 p437 q437
                                                  obtain rfl : ad435 = ad437 := (by injection e437)
                                                  replace p437 := eq_true p437
                                                  replace q437 := eq_true q437
                                                  refine start_ (n := 24) (S := fun w' => w'.cell? (ad434.add ((x155_5).toNat * 3)) = some (.int .i64 ((rd_T33 t428 x155_5).f0)) ∧ w'.cell? ⟨(ad434.add ((x155_5).toNat * 3)).block, (ad434.add ((x155_5).toNat * 3)).off + 1, none⟩ = some (.string ((rd_T33 t428 x155_5).f1)) ∧ w'.cell? ⟨(ad434.add ((x155_5).toNat * 3)).block, (ad434.add ((x155_5).toNat * 3)).off + 2, none⟩ = some (.int .i64 ((rd_T33 t428 x155_5).f2)) ∧ w'.cell? (ad435.add ((x155_5).toNat * 3)) = some (.int .i64 ((rd_T33 t405 x155_5).f0)) ∧ w'.cell? ⟨(ad435.add ((x155_5).toNat * 3)).block, (ad435.add ((x155_5).toNat * 3)).off + 1, none⟩ = some (.string ((rd_T33 t405 x155_5).f1)) ∧ w'.cell? ⟨(ad435.add ((x155_5).toNat * 3)).block, (ad435.add ((x155_5).toNat * 3)).off + 2, none⟩ = some (.int .i64 ((rd_T33 t405 x155_5).f2)) ∧ w'.cell? (ad434.add ((x155_5).toNat * 3)) = some (.int .i64 ((rd_T33 t428 x155_5).f0)) ∧ w'.cell? ⟨(ad434.add ((x155_5).toNat * 3)).block, (ad434.add ((x155_5).toNat * 3)).off + 1, none⟩ = some (.string ((rd_T33 t428 x155_5).f1)) ∧ w'.cell? ⟨(ad434.add ((x155_5).toNat * 3)).block, (ad434.add ((x155_5).toNat * 3)).off + 2, none⟩ = some (.int .i64 ((rd_T33 t428 x155_5).f2)) ∧ w'.cell? (ad435.add ((x155_5).toNat * 3)) = some (.int .i64 ((rd_T33 t405 x155_5).f0)) ∧ w'.cell? ⟨(ad435.add ((x155_5).toNat * 3)).block, (ad435.add ((x155_5).toNat * 3)).off + 1, none⟩ = some (.string ((rd_T33 t405 x155_5).f1)) ∧ w'.cell? ⟨(ad435.add ((x155_5).toNat * 3)).block, (ad435.add ((x155_5).toNat * 3)).off + 2, none⟩ = some (.int .i64 ((rd_T33 t405 x155_5).f2))) (ds := []) #[false, false, false, false, false, false, false, false, false, false, false, false, false, false, false, false, false, false, false, false, false, false, false, false] (by kernel_rfl) rfl rfl ⟨hx434_0, hx434_1, hx434_2, hx435_0, hx435_1, hx435_2, hx436_0, hx436_1, hx436_2, hx437_0, hx437_1, hx437_2⟩ (fun hHeld => ?_); refine with_tabW glebelaw8_IsctBack.tab30 glebelaw8_IsctBack.bits30 (fun HT_ HW_ => ?_)
                                                  generalize wr.drew = w91 at HO_10 HO_14 BK397 BK410 BK433 HB hx434_0 hx434_1 hx434_2 hx435_0 hx435_1 hx435_2 hx436_0 hx436_1 hx436_2 hx437_0 hx437_1 hx437_2 hHeld ⊢
                                                  refine pure_ (i := 0) (N := some 158) (v := ?_) (a' := ?_) #[true, false, false, false, false, false, false, false, false, false, false, false, false, false, false, false, false, false, false, false, false, false, false, false] rfl rfl (any_of HT_.out (by kernel_rfl)) (fun _ _ _ h => h) (Or.inl ⟨by rfl, ?_⟩) ?_ ?_
                                                  rotate_left
                                                  · intro w'
                                                    go_simp
                                                    with_reducible rfl
                                                  rotate_left
                                                  · simp only [Act.put, List.setIfInBounds_toArray, List.set_cons_zero, List.set_cons_succ, i64_w, i32_w]
                                                    rfl
                                                  refine pure_ (i := 1) (N := some 159) (v := ?_) (a' := ?_) #[true, true, false, false, false, false, false, false, false, false, false, false, false, false, false, false, false, false, false, false, false, false, false, false] rfl rfl (any_of HT_.out (by kernel_rfl)) (fun _ _ _ h => h) (Or.inl ⟨by rfl, ?_⟩) ?_ ?_
                                                  rotate_left
                                                  · intro w'
                                                    go_simp
                                                    with_reducible rfl
                                                  rotate_left
                                                  · simp only [Act.put, List.setIfInBounds_toArray, List.set_cons_zero, List.set_cons_succ, i64_w, i32_w]
                                                    rfl
                                                  refine pure_ (i := 2) (N := some 160) (v := ?_) (a' := ?_) #[true, true, true, false, false, false, false, false, false, false, false, false, false, false, false, false, false, false, false, false, false, false, false, false] rfl rfl (any_of HT_.out (by kernel_rfl)) (fun _ _ _ h => h) (Or.inl ⟨by rfl, ?_⟩) ?_ ?_
                                                  rotate_left
                                                  · intro w'
                                                    go_simp
                                                    with_reducible rfl
                                                  rotate_left
                                                  · simp only [Act.put, List.setIfInBounds_toArray, List.set_cons_zero, List.set_cons_succ, i64_w, i32_w]
                                                    rfl
                                                  refine pure_ (i := 3) (N := some 161) (v := ?_) (a' := ?_) #[true, true, true, true, false, false, false, false, false, false, false, false, false, false, false, false, false, false, false, false, false, false, false, false] rfl rfl (any_of HT_.out (by kernel_rfl)) (fun _ _ _ h => h) (Or.inl ⟨by rfl, ?_⟩) ?_ ?_
                                                  rotate_left
                                                  · intro w'
                                                    go_simp
                                                    with_reducible rfl
                                                  rotate_left
                                                  · simp only [Act.put, List.setIfInBounds_toArray, List.set_cons_zero, List.set_cons_succ, i64_w, i32_w]
                                                    rfl
                                                  refine pure_ (i := 5) (N := some 163) (v := ?_) (a' := ?_) #[true, true, true, true, false, true, false, false, false, false, false, false, false, false, false, false, false, false, false, false, false, false, false, false] rfl rfl (any_of HT_.out (by kernel_rfl)) (fun _ _ _ h => h) (Or.inl ⟨by rfl, ?_⟩) ?_ ?_
                                                  rotate_left
                                                  · intro w'
                                                    go_simp
                                                    with_reducible rfl
                                                  rotate_left
                                                  · simp only [Act.put, List.setIfInBounds_toArray, List.set_cons_zero, List.set_cons_succ, i64_w, i32_w]
                                                    rfl
                                                  refine pure_ (i := 6) (N := some 164) (v := ?_) (a' := ?_) #[true, true, true, true, false, true, true, false, false, false, false, false, false, false, false, false, false, false, false, false, false, false, false, false] rfl rfl (any_of HT_.out (by kernel_rfl)) (fun _ _ _ h => h) (Or.inl ⟨by rfl, ?_⟩) ?_ ?_
                                                  rotate_left
                                                  · intro w'
                                                    go_simp
                                                    with_reducible rfl
                                                  rotate_left
                                                  · simp only [Act.put, List.setIfInBounds_toArray, List.set_cons_zero, List.set_cons_succ, i64_w, i32_w]
                                                    rfl
                                                  refine pure_ (i := 7) (N := some 165) (v := ?_) (a' := ?_) #[true, true, true, true, false, true, true, true, false, false, false, false, false, false, false, false, false, false, false, false, false, false, false, false] rfl rfl (any_of HT_.out (by kernel_rfl)) (fun _ _ _ h => h) (Or.inl ⟨by rfl, ?_⟩) ?_ ?_
                                                  rotate_left
                                                  · intro w'
                                                    go_simp
                                                    with_reducible rfl
                                                  rotate_left
                                                  · simp only [Act.put, List.setIfInBounds_toArray, List.set_cons_zero, List.set_cons_succ, i64_w, i32_w]
                                                    rfl
                                                  refine pure_ (i := 8) (N := some 166) (v := ?_) (a' := ?_) #[true, true, true, true, false, true, true, true, true, false, false, false, false, false, false, false, false, false, false, false, false, false, false, false] rfl rfl (any_of HT_.out (by kernel_rfl)) (fun _ _ _ h => h) (Or.inl ⟨by rfl, ?_⟩) ?_ ?_
                                                  rotate_left
                                                  · intro w'
                                                    go_simp
                                                    with_reducible rfl
                                                  rotate_left
                                                  · simp only [Act.put, List.setIfInBounds_toArray, List.set_cons_zero, List.set_cons_succ, i64_w, i32_w]
                                                    rfl
                                                  refine take_ (i := 4) (N := some 162) (v := ?_) (a' := ?_) #[true, true, true, true, true, true, true, true, true, false, false, false, false, false, false, false, false, false, false, false, false, false, false, false] rfl rfl (take_ofW HT_.out HW_.out (by kernel_rfl)) (fun _ _ _ h => h) (Or.inl ⟨by rfl, ?_⟩) hHeld ?_ ?_
                                                  rotate_left
                                                  · rintro w' ⟨s0, s1, s2, s3, s4, s5, s6, s7, s8, s9, s10, s11⟩
                                                    go_simp
                                                    with_reducible rfl
                                                  rotate_left
                                                  · simp only [Act.put, List.setIfInBounds_toArray, List.set_cons_zero, List.set_cons_succ, i64_w, i32_w]
                                                    rfl
                                                  refine take_ (i := 9) (N := some 167) (v := ?_) (a' := ?_) #[true, true, true, true, true, true, true, true, true, true, false, false, false, false, false, false, false, false, false, false, false, false, false, false] rfl rfl (take_ofW HT_.out HW_.out (by kernel_rfl)) (fun _ _ _ h => h) (Or.inl ⟨by rfl, ?_⟩) hHeld ?_ ?_
                                                  rotate_left
                                                  · rintro w' ⟨s0, s1, s2, s3, s4, s5, s6, s7, s8, s9, s10, s11⟩
                                                    go_simp
                                                    with_reducible rfl
                                                  rotate_left
                                                  · simp only [Act.put, List.setIfInBounds_toArray, List.set_cons_zero, List.set_cons_succ, i64_w, i32_w]
                                                    rfl
                                                  refine pure_ (i := 10) (N := some 168) (v := ?_) (a' := ?_) #[true, true, true, true, true, true, true, true, true, true, true, false, false, false, false, false, false, false, false, false, false, false, false, false] rfl rfl (any_of HT_.out (by kernel_rfl)) (fun _ _ _ h => h) (Or.inl ⟨by rfl, ?_⟩) ?_ ?_
                                                  rotate_left
                                                  · intro w'
                                                    go_simp
                                                    with_reducible rfl
                                                  rotate_left
                                                  · simp only [Act.put, List.setIfInBounds_toArray, List.set_cons_zero, List.set_cons_succ, i64_w, i32_w]
                                                    rfl
                                                  refine pure_ (i := 11) (N := some 169) (v := ?_) (a' := ?_) #[true, true, true, true, true, true, true, true, true, true, true, true, false, false, false, false, false, false, false, false, false, false, false, false] rfl rfl (any_of HT_.out (by kernel_rfl)) (fun _ _ _ h => h) (Or.inl ⟨by rfl, ?_⟩) ?_ ?_
                                                  rotate_left
                                                  · intro w'
                                                    go_simp
                                                    with_reducible rfl
                                                  rotate_left
                                                  · simp only [Act.put, List.setIfInBounds_toArray, List.set_cons_zero, List.set_cons_succ, i64_w, i32_w]
                                                    rfl
                                                  refine pure_ (i := 12) (N := some 170) (v := ?_) (a' := ?_) #[true, true, true, true, true, true, true, true, true, true, true, true, true, false, false, false, false, false, false, false, false, false, false, false] rfl rfl (any_of HT_.out (by kernel_rfl)) (fun _ _ _ h => h) (Or.inl ⟨by rfl, ?_⟩) ?_ ?_
                                                  rotate_left
                                                  · intro w'
                                                    go_simp
                                                    with_reducible rfl
                                                  rotate_left
                                                  · simp only [Act.put, List.setIfInBounds_toArray, List.set_cons_zero, List.set_cons_succ, i64_w, i32_w]
                                                    rfl
                                                  refine pure_ (i := 13) (N := some 171) (v := ?_) (a' := ?_) #[true, true, true, true, true, true, true, true, true, true, true, true, true, true, false, false, false, false, false, false, false, false, false, false] rfl rfl (any_of HT_.out (by kernel_rfl)) (fun _ _ _ h => h) (Or.inl ⟨by rfl, ?_⟩) ?_ ?_
                                                  rotate_left
                                                  · intro w'
                                                    go_simp
                                                    with_reducible rfl
                                                  rotate_left
                                                  · simp only [Act.put, List.setIfInBounds_toArray, List.set_cons_zero, List.set_cons_succ, i64_w, i32_w]
                                                    rfl
                                                  refine pure_ (i := 14) (N := some 172) (v := ?_) (a' := ?_) #[true, true, true, true, true, true, true, true, true, true, true, true, true, true, true, false, false, false, false, false, false, false, false, false] rfl rfl (any_of HT_.out (by kernel_rfl)) (fun _ _ _ h => h) (Or.inl ⟨by rfl, ?_⟩) ?_ ?_
                                                  rotate_left
                                                  · intro w'
                                                    go_simp
                                                    with_reducible rfl
                                                  rotate_left
                                                  · simp only [Act.put, List.setIfInBounds_toArray, List.set_cons_zero, List.set_cons_succ, i64_w, i32_w]
                                                    rfl
                                                  refine pure_ (i := 15) (N := some 173) (v := ?_) (a' := ?_) #[true, true, true, true, true, true, true, true, true, true, true, true, true, true, true, true, false, false, false, false, false, false, false, false] rfl rfl (any_of HT_.out (by kernel_rfl)) (fun _ _ _ h => h) (Or.inl ⟨by rfl, ?_⟩) ?_ ?_
                                                  rotate_left
                                                  · intro w'
                                                    go_simp
                                                    with_reducible rfl
                                                  rotate_left
                                                  · simp only [Act.put, List.setIfInBounds_toArray, List.set_cons_zero, List.set_cons_succ, i64_w, i32_w]
                                                    rfl
                                                  refine pure_ (i := 17) (N := some 175) (v := ?_) (a' := ?_) #[true, true, true, true, true, true, true, true, true, true, true, true, true, true, true, true, false, true, false, false, false, false, false, false] rfl rfl (any_of HT_.out (by kernel_rfl)) (fun _ _ _ h => h) (Or.inl ⟨by rfl, ?_⟩) ?_ ?_
                                                  rotate_left
                                                  · intro w'
                                                    go_simp
                                                    with_reducible rfl
                                                  rotate_left
                                                  · simp only [Act.put, List.setIfInBounds_toArray, List.set_cons_zero, List.set_cons_succ, i64_w, i32_w]
                                                    rfl
                                                  refine pure_ (i := 18) (N := some 176) (v := ?_) (a' := ?_) #[true, true, true, true, true, true, true, true, true, true, true, true, true, true, true, true, false, true, true, false, false, false, false, false] rfl rfl (any_of HT_.out (by kernel_rfl)) (fun _ _ _ h => h) (Or.inl ⟨by rfl, ?_⟩) ?_ ?_
                                                  rotate_left
                                                  · intro w'
                                                    go_simp
                                                    with_reducible rfl
                                                  rotate_left
                                                  · simp only [Act.put, List.setIfInBounds_toArray, List.set_cons_zero, List.set_cons_succ, i64_w, i32_w]
                                                    rfl
                                                  refine pure_ (i := 19) (N := some 177) (v := ?_) (a' := ?_) #[true, true, true, true, true, true, true, true, true, true, true, true, true, true, true, true, false, true, true, true, false, false, false, false] rfl rfl (any_of HT_.out (by kernel_rfl)) (fun _ _ _ h => h) (Or.inl ⟨by rfl, ?_⟩) ?_ ?_
                                                  rotate_left
                                                  · intro w'
                                                    go_simp
                                                    with_reducible rfl
                                                  rotate_left
                                                  · simp only [Act.put, List.setIfInBounds_toArray, List.set_cons_zero, List.set_cons_succ, i64_w, i32_w]
                                                    rfl
                                                  refine pure_ (i := 20) (N := some 178) (v := ?_) (a' := ?_) #[true, true, true, true, true, true, true, true, true, true, true, true, true, true, true, true, false, true, true, true, true, false, false, false] rfl rfl (any_of HT_.out (by kernel_rfl)) (fun _ _ _ h => h) (Or.inl ⟨by rfl, ?_⟩) ?_ ?_
                                                  rotate_left
                                                  · intro w'
                                                    go_simp
                                                    with_reducible rfl
                                                  rotate_left
                                                  · simp only [Act.put, List.setIfInBounds_toArray, List.set_cons_zero, List.set_cons_succ, i64_w, i32_w]
                                                    rfl
                                                  refine take_ (i := 16) (N := some 174) (v := ?_) (a' := ?_) #[true, true, true, true, true, true, true, true, true, true, true, true, true, true, true, true, true, true, true, true, true, false, false, false] rfl rfl (take_ofW HT_.out HW_.out (by kernel_rfl)) (fun _ _ _ h => h) (Or.inl ⟨by rfl, ?_⟩) hHeld ?_ ?_
                                                  rotate_left
                                                  · rintro w' ⟨s0, s1, s2, s3, s4, s5, s6, s7, s8, s9, s10, s11⟩
                                                    go_simp
                                                    with_reducible rfl
                                                  rotate_left
                                                  · simp only [Act.put, List.setIfInBounds_toArray, List.set_cons_zero, List.set_cons_succ, i64_w, i32_w]
                                                    rfl
                                                  refine take_ (i := 21) (N := some 179) (v := ?_) (a' := ?_) #[true, true, true, true, true, true, true, true, true, true, true, true, true, true, true, true, true, true, true, true, true, true, false, false] rfl rfl (take_ofW HT_.out HW_.out (by kernel_rfl)) (fun _ _ _ h => h) (Or.inl ⟨by rfl, ?_⟩) hHeld ?_ ?_
                                                  rotate_left
                                                  · rintro w' ⟨s0, s1, s2, s3, s4, s5, s6, s7, s8, s9, s10, s11⟩
                                                    go_simp
                                                    with_reducible rfl
                                                  rotate_left
                                                  · simp only [Act.put, List.setIfInBounds_toArray, List.set_cons_zero, List.set_cons_succ, i64_w, i32_w]
                                                    rfl
                                                  refine pure_ (i := 22) (N := some 180) (v := ?_) (a' := ?_) #[true, true, true, true, true, true, true, true, true, true, true, true, true, true, true, true, true, true, true, true, true, true, true, false] rfl rfl (any_of HT_.out (by kernel_rfl)) (fun _ _ _ h => h) (Or.inl ⟨by rfl, ?_⟩) ?_ ?_
                                                  rotate_left
                                                  · intro w'
                                                    go_simp
                                                    with_reducible rfl
                                                  rotate_left
                                                  · simp only [Act.put, List.setIfInBounds_toArray, List.set_cons_zero, List.set_cons_succ, i64_w, i32_w]
                                                    rfl
                                                  refine pure_ (i := 23) (N := some 181) (v := ?_) (a' := ?_) #[true, true, true, true, true, true, true, true, true, true, true, true, true, true, true, true, true, true, true, true, true, true, true, true] rfl rfl (any_of HT_.out (by kernel_rfl)) (fun _ _ _ h => h) (Or.inl ⟨by rfl, ?_⟩) ?_ ?_
                                                  rotate_left
                                                  · intro w'
                                                    go_simp
                                                    with_reducible rfl
                                                  rotate_left
                                                  · simp only [Act.put, List.setIfInBounds_toArray, List.set_cons_zero, List.set_cons_succ, i64_w, i32_w]
                                                    rfl
                                                  refine done_ (done_of HT_.out (by kernel_rfl)) ?_
                                                  try go_wp2
                                                  go_roundg k5
                                                  case measure => have := HK1.out; have := HJ16.out; have := HK3.out; have := HJ67.out; have := HK5.out; omega
                                                  case rel => exact ⟨(wrap64 (x155_5 + 1)), (by first | rfl | (simp; done) | (simp [*]; done)), H', ⟨by have := HK1.out; have := HJ16.out; have := HK3.out; have := HJ67.out; have := HK5.out; omega⟩, ⟨by (with_reducible repeat (first | apply Kd.R_alloc | apply Kd.R_drewN | apply Kd.R_drew)); exact HO_10.out⟩, ⟨by (with_reducible repeat (first | apply Kd.R_alloc | apply Kd.R_drewN | apply Kd.R_drew)); exact HO_14.out⟩, ⟨by (with_reducible repeat (first | refine blk_drewN ?_ _ | refine blk_drew ?_ | refine blk_alloc ?_ _)); exact BK397.out⟩, ⟨by (with_reducible repeat (first | refine blk_drewN ?_ _ | refine blk_drew ?_ | refine blk_alloc ?_ _)); exact BK410.out⟩, ⟨by (with_reducible repeat (first | refine blk_drewN ?_ _ | refine blk_drew ?_ | refine blk_alloc ?_ _)); exact BK433.out⟩, ⟨by repeat (first | (with_reducible first | exact HB.out | apply below_alloc | apply pw_below_drewN | apply below_drew1 | refine below_set ?_ GE397.out | refine below_set ?_ GE410.out | refine below_set ?_ GE433.out) | exact HB.out)⟩⟩
                                                · rw [if_neg c90] at H
                                                  exact absurd H (by simp)
                                              · rw [if_neg c89] at H
                                                exact absurd H (by simp)
                                            · rw [if_neg c88] at H
                                              exact absurd H (by simp)
                                          · rw [if_neg c87] at H
                                            exact absurd H (by simp)
                                        · rw [if_neg c86] at H
                                          exact absurd H (by simp)
                                      · rw [if_neg c85] at H
                                        have c85b0 : decide (x155_5 < (t428.length : Int)) = false := decide_eq_false c85
                                        clear c85
                                        replace H := Option.bind_eq_some_iff.mp H
                                        obtain ⟨t438, A920, H⟩ := H
                                        replace H : (some t438) = some r := H
                                        have A92 := Aside0.mk A920
                                        clear A920
                                        obtain rfl := Option.some.inj H
                                        go_wp2_with (first | ((with_reducible refine gate_callee (f := 15) rfl ?_); refine goesL_ (some 183) rfl rfl Try.func15 (by kernel_rfl) rfl #[] rfl (by (try simp only [List.map_toArray, List.map_cons, List.map_nil]); first | done | rfl | (simp only [List.length_drop, List.length_take]; rfl)) ?_; (with_reducible refine (glebelaw8_awake.calls k5  t438 _ A92.out).mono ?_); rintro e w93 ⟨rfl, hb⟩; refine ⟨_, rfl, ?_⟩; have n0_ := Aside0.mk (Kd.R_below (by (with_reducible repeat (first | apply Kd.R_alloc | apply Kd.R_drewN | apply Kd.R_drew)); exact HO_10.out) hb); have n1_ := Aside0.mk (Kd.R_below (by (with_reducible repeat (first | apply Kd.R_alloc | apply Kd.R_drewN | apply Kd.R_drew)); exact HO_14.out) hb); have n2_ := Aside0.mk (blk_below (g := gb397) (o := .cells #[.int .i64 t395, .int .i64 t396] 26 (0, 0)) (by (with_reducible repeat (first | refine blk_drewN ?_ _ | refine blk_drew ?_ | refine blk_alloc ?_ _)); exact BK397.out) hb); have n3_ := Aside0.mk (blk_below (g := gb410) (o := .cells #[.int .i64 t408, .int .i64 t409] 26 (0, 0)) (by (with_reducible repeat (first | refine blk_drewN ?_ _ | refine blk_drew ?_ | refine blk_alloc ?_ _)); exact BK410.out) hb); have n4_ := Aside0.mk (blk_below (g := gb433) (o := .cells #[.int .i64 t431, .int .i64 t432] 26 (0, 0)) (by (with_reducible repeat (first | refine blk_drewN ?_ _ | refine blk_drew ?_ | refine blk_alloc ?_ _)); exact BK433.out) hb); have n5_ := Aside0.mk (below_step (by repeat (first | (with_reducible first | exact HB.out | apply below_alloc | apply pw_below_drewN | apply below_drew1 | refine below_set ?_ GE397.out | refine below_set ?_ GE410.out | refine below_set ?_ GE433.out) | exact HB.out)) hb); clear HO_10; clear HO_14; clear BK397; clear BK410; clear BK433; clear HB; have HO_10 := n0_; have HO_14 := n1_; have BK397 := n2_; have BK410 := n3_; have BK433 := n4_; have HB := n5_; clear n0_ n1_ n2_ n3_ n4_ n5_; (try clear hb); (try clear hb2); (try clear hk); (try clear hi)))
                                        go_ret
                                        exact ⟨by first | rfl | (simp [errW_none, errW_some] <;> rfl) | (simp [*, errW_none, errW_some] <;> rfl), by repeat (first | (with_reducible first | exact HB.out | apply below_alloc | apply pw_below_drewN | apply below_drew1 | refine below_set ?_ GE397.out | refine below_set ?_ GE410.out | refine below_set ?_ GE433.out) | exact HB.out)⟩
                    · rw [if_neg c46] at H
                      have c46b0 : (t408 == 0) = false := beq_eq_false_iff_ne.mpr c46
                      have c46b1 : (t408 != 0) = true := bne_iff_ne.mpr c46
                      by_cases c94 : (t405.length : Int) = 0
                      · rw [if_pos c94] at H
                        have c94b0 : ((t405.length : Int) == 0) = true := beq_iff_eq.mpr c94
                        have c94b1 : ((t405.length : Int) != 0) = false := bne_eq_false_iff_eq.mpr c94
                        clear c94
                        by_cases c95 : t409 ≥ 0
                        · rw [if_pos c95] at H
                          have c95b0 : decide (0 ≤ t409) = true := decide_eq_true c95
                          clear c95
                          replace H := Option.bind_eq_some_iff.mp H
                          obtain ⟨t411, A960, H⟩ := H
                          replace H : (if t409 ≤ (t411.length : Int) then ((glebelaw8_awake.f kj16).bind fun t414 => (some t414)) else (none)) = some r := H
                          have A96 := Aside0.mk A960
                          clear A960
                          by_cases c97 : t409 ≤ (t411.length : Int)
                          · rw [if_pos c97] at H
                            have c97b0 : decide (t409 ≤ (t411.length : Int)) = true := decide_eq_true c97
                            clear c97
                            replace H := Option.bind_eq_some_iff.mp H
                            obtain ⟨t414, A980, H⟩ := H
                            replace H : (some t414) = some r := H
                            have A98 := Aside0.mk A980
                            clear A980
                            obtain rfl := Option.some.inj H
                            try go_wp2_with (first | ((with_reducible refine gate_callee (f := 16) rfl ?_); refine goesL_ (some 83) rfl rfl Try.func16 (by kernel_rfl) rfl #[.slice A1 l1.length c1] rfl (by (try simp only [List.map_toArray, List.map_cons, List.map_nil]); first | done | rfl | (simp only [List.length_drop, List.length_take]; rfl)) ?_; (with_reducible refine (glebelaw8_Text.calls kj16 _ _ l1 t402 _ ?side1 ?side2 A44.out).mono ?_); (case side1 => repeat (first | exact (Kd.C_below HR1.out HB.out) | (with_reducible refine Kd.C_alloc ?_ _) | (with_reducible refine Kd.C_drewN ?_ _) | (with_reducible refine Kd.C_drew ?_))); (case side2 => exact HC1.out); rintro e w99 ⟨v403, rfl, ho0, hb⟩; refine ⟨_, rfl, ?_⟩; have n0_ := Aside0.mk (Kd.R_lower ho0 (below_size (by repeat (first | (with_reducible first | exact HB.out | apply below_alloc | apply pw_below_drewN | apply below_drew1 | refine below_set ?_ GE397.out) | exact HB.out)))); have n1_ := Aside0.mk (blk_below (g := gb397) (o := .cells #[.int .i64 t395, .int .i64 t396] 26 (0, 0)) (by (with_reducible repeat (first | refine blk_drewN ?_ _ | refine blk_drew ?_ | refine blk_alloc ?_ _)); exact BK397.out) hb); have n2_ := Aside0.mk (below_step (by repeat (first | (with_reducible first | exact HB.out | apply below_alloc | apply pw_below_drewN | apply below_drew1 | refine below_set ?_ GE397.out) | exact HB.out)) hb); clear BK397; clear HB; have HO404 := n0_; have BK397 := n1_; have HB := n2_; clear n0_ n1_ n2_; (try clear hb); (try clear hb2); (try clear hk); (try clear hi); (try clear ho0); obtain ⟨Ao100, co100, eo100⟩ := Kd.R_slice HO404.out; subst eo100) | ((with_reducible refine gate_callee (f := 14) rfl ?_); refine goesL_ (some 84) rfl rfl Try.func14 (by kernel_rfl) rfl #[.slice Ao100 t402.length co100] rfl (by (try simp only [List.map_toArray, List.map_cons, List.map_nil]); first | done | rfl | (simp only [List.length_drop, List.length_take]; rfl)) ?_; (with_reducible refine (isct_Tokens.calls kj16 _ _ t402 t405 t408 t409 _ ?side1 ?side2 A45.out).mono ?_); (case side1 => repeat (first | exact (Kd.R_reads' HO404.out).2.2 | (with_reducible refine Kd.C_alloc ?_ _) | (with_reducible refine Kd.C_drewN ?_ _) | (with_reducible refine Kd.C_drew ?_))); (case side2 => exact (Kd.R_reads' HO404.out).2.1); rintro e w101 ⟨v406, rfl, ho0, hb⟩; refine ⟨_, rfl, ?_⟩; have n0_ := Aside0.mk (Kd.R_below (by (with_reducible repeat (first | apply Kd.R_alloc | apply Kd.R_drewN | apply Kd.R_drew)); exact HO404.out) hb); have n1_ := Aside0.mk (Kd.R_lower ho0 (below_size (by repeat (first | (with_reducible first | exact HB.out | apply below_alloc | apply pw_below_drewN | apply below_drew1 | refine below_set ?_ GE397.out) | exact HB.out)))); have n2_ := Aside0.mk (blk_below (g := gb397) (o := .cells #[.int .i64 t395, .int .i64 t396] 26 (0, 0)) (by (with_reducible repeat (first | refine blk_drewN ?_ _ | refine blk_drew ?_ | refine blk_alloc ?_ _)); exact BK397.out) hb); have n3_ := Aside0.mk (below_step (by repeat (first | (with_reducible first | exact HB.out | apply below_alloc | apply pw_below_drewN | apply below_drew1 | refine below_set ?_ GE397.out) | exact HB.out)) hb); clear HO404; clear BK397; clear HB; have HO404 := n0_; have HO407 := n1_; have BK397 := n2_; have HB := n3_; clear n0_ n1_ n2_ n3_; (try clear hb); (try clear hb2); (try clear hk); (try clear hi); (try clear ho0)) | ((with_reducible refine gate_dst (N := 11) rfl ?_); (try (refine gate_guard (by rfl) ?_; dsimp only)); refine box_event ?hg (N := 11) ?hd (cs := #[.int .i64 0, .int .i64 0]) (t := 26) ?hr ?_; (case hd => rfl); (case hg => rfl); (case hr => first | (go_simp; done) | (go_simp; rfl)); intro gb410 hg w102 hbox hb; have n0_ := Aside0.mk (Kd.R_below (by (with_reducible repeat (first | apply Kd.R_alloc | apply Kd.R_drewN | apply Kd.R_drew)); exact HO404.out) hb); have n1_ := Aside0.mk (Kd.R_below (by (with_reducible repeat (first | apply Kd.R_alloc | apply Kd.R_drewN | apply Kd.R_drew)); exact HO407.out) hb); have n2_ := Aside0.mk (blk_below (g := gb397) (o := .cells #[.int .i64 t395, .int .i64 t396] 26 (0, 0)) (by (with_reducible repeat (first | refine blk_drewN ?_ _ | refine blk_drew ?_ | refine blk_alloc ?_ _)); exact BK397.out) hb); have n3_ := Aside0.mk (below_step (by repeat (first | (with_reducible first | exact HB.out | apply below_alloc | apply pw_below_drewN | apply below_drew1 | refine below_set ?_ GE397.out) | exact HB.out)) hb); have n4_ := Aside0.mk (hbox); have n5_ := Aside0.mk ((by rw [hg]; exact (below_size (by repeat (first | (with_reducible first | exact HB.out | apply below_alloc | apply pw_below_drewN | apply below_drew1 | refine below_set ?_ GE397.out) | exact HB.out))) : w.heap.size ≤ gb410)); have n6_ := Aside0.mk ((by rw [hg]; exact (below_size (by repeat (first | (with_reducible first | exact HB.out | apply below_alloc | apply pw_below_drewN | apply below_drew1 | refine below_set ?_ GE397.out) | exact HB.out))) : w.heap.size ≤ gb410)); have n7_ := Aside0.mk ((by rw [hg]; exact Nat.ne_of_lt (blk_lt (g := gb397) (o := .cells #[.int .i64 t395, .int .i64 t396] 26 (0, 0)) (by (with_reducible repeat (first | refine blk_drewN ?_ _ | refine blk_drew ?_ | refine blk_alloc ?_ _)); exact BK397.out)) : gb397 ≠ gb410)); have n8_ := Aside0.mk ((by rw [hg]; exact Nat.ne_of_gt (blk_lt (g := gb397) (o := .cells #[.int .i64 t395, .int .i64 t396] 26 (0, 0)) (by (with_reducible repeat (first | refine blk_drewN ?_ _ | refine blk_drew ?_ | refine blk_alloc ?_ _)); exact BK397.out)) : gb410 ≠ gb397)); clear HO404; clear HO407; clear BK397; clear HB; have HO404 := n0_; have HO407 := n1_; have BK397 := n2_; have HB := n3_; have BK410 := n4_; have GW410 := n5_; have GE410 := n6_; have NB397_410 := n7_; have NB410_397 := n8_; clear n0_ n1_ n2_ n3_ n4_ n5_ n6_ n7_ n8_; clear hb hbox hg; have hnb103 := NB410_397.out; have hnc103 := NB397_410.out; have hcz104_0 : w102.cell? ⟨gb410, 0, none⟩ = some (.int .i64 0) := (blk_cell BK410.out 0).trans rfl; have hcz104_1 : w102.cell? ⟨gb410, 1, none⟩ = some (.int .i64 0) := (blk_cell BK410.out 1).trans rfl; have hfz104_0 := blk_frozen BK410.out 0; have hfz104_1 := blk_frozen BK410.out 1))
                            have n0_ : Aside0 (Kd.R (Kd.int .u8) 5 ((w102.setCell ⟨gb410, 0, none⟩ (.int .i64 t408)).setCell ⟨gb410, 1, none⟩ (.int .i64 t409)) w.heap.size (fun _ => True) (.slice Ao100 t402.length co100) t402) := ⟨by (with_reducible repeat (first | apply Kd.R_alloc | apply Kd.R_drewN | apply Kd.R_drew)); exact Kd.R_mono (Kd.R_far (p := ⟨gb410, 1, none⟩) (Kd.R_far (p := ⟨gb410, 0, none⟩) (Kd.R_types HO404.out BK410.out (by decide)) (fun _ hk => hk.2) (.int .i64 t408)) (fun _ hk => hk.2) (.int .i64 t409)) (fun _ hk => trivial)⟩
                            have n1_ : Aside0 (Kd.R k33 33 ((w102.setCell ⟨gb410, 0, none⟩ (.int .i64 t408)).setCell ⟨gb410, 1, none⟩ (.int .i64 t409)) w.heap.size (fun _ => True) v406 t405) := ⟨by (with_reducible repeat (first | apply Kd.R_alloc | apply Kd.R_drewN | apply Kd.R_drew)); exact Kd.R_mono (Kd.R_far (p := ⟨gb410, 1, none⟩) (Kd.R_far (p := ⟨gb410, 0, none⟩) (Kd.R_types HO407.out BK410.out (by decide)) (fun _ hk => hk.2) (.int .i64 t408)) (fun _ hk => hk.2) (.int .i64 t409)) (fun _ hk => trivial)⟩
                            have n2_ : Aside0 (((w102.setCell ⟨gb410, 0, none⟩ (.int .i64 t408)).setCell ⟨gb410, 1, none⟩ (.int .i64 t409)).heap[gb397]? = some (.cells #[.int .i64 t395, .int .i64 t396] 26 (0, 0))) := ⟨by (with_reducible repeat (first | refine blk_drewN ?_ _ | refine blk_drew ?_ | refine blk_alloc ?_ _)); refine blk_far ?_ NB397_410.out _; (with_reducible repeat (first | refine blk_drewN ?_ _ | refine blk_drew ?_ | refine blk_alloc ?_ _)); refine blk_far ?_ NB397_410.out _; (with_reducible repeat (first | refine blk_drewN ?_ _ | refine blk_drew ?_ | refine blk_alloc ?_ _)); exact BK397.out⟩
                            have n3_ : Aside0 (((w102.setCell ⟨gb410, 0, none⟩ (.int .i64 t408)).setCell ⟨gb410, 1, none⟩ (.int .i64 t409)).heap[gb410]? = some (.cells #[.int .i64 t408, .int .i64 t409] 26 (0, 0))) := ⟨by (with_reducible repeat (first | refine blk_drewN ?_ _ | refine blk_drew ?_ | refine blk_alloc ?_ _)); refine blk_put (cs := #[.int .i64 t408, .int .i64 0]) ?_ 1 _ rfl; (with_reducible repeat (first | refine blk_drewN ?_ _ | refine blk_drew ?_ | refine blk_alloc ?_ _)); refine blk_put (cs := #[.int .i64 0, .int .i64 0]) ?_ 0 _ rfl; (with_reducible repeat (first | refine blk_drewN ?_ _ | refine blk_drew ?_ | refine blk_alloc ?_ _)); exact BK410.out⟩
                            have n4_ : Aside0 (Below w.heap.size w ((w102.setCell ⟨gb410, 0, none⟩ (.int .i64 t408)).setCell ⟨gb410, 1, none⟩ (.int .i64 t409))) := ⟨by repeat (first | (with_reducible first | exact HB.out | apply below_alloc | apply pw_below_drewN | apply below_drew1 | refine below_set ?_ GE397.out | refine below_set ?_ GE410.out) | exact HB.out)⟩
                            (try clear HO404)
                            (try clear HO407)
                            (try clear BK397)
                            (try clear BK410)
                            (try clear HB)
                            generalize ((w102.setCell ⟨gb410, 0, none⟩ (.int .i64 t408)).setCell ⟨gb410, 1, none⟩ (.int .i64 t409)) = w105 at n0_ n1_ n2_ n3_ n4_ ⊢
                            have HO404 := n0_
                            have HO407 := n1_
                            have BK397 := n2_
                            have BK410 := n3_
                            have HB := n4_
                            clear n0_ n1_ n2_ n3_ n4_
                            have n0_ := Aside0.mk (Kd.R_drew HO404.out)
                            have n1_ := Aside0.mk (Kd.R_drew HO407.out)
                            have n2_ := Aside0.mk (blk_drew BK397.out)
                            have n3_ := Aside0.mk (blk_drew BK410.out)
                            have n4_ := Aside0.mk (below_drew1 HB.out)
                            clear HO404
                            clear HO407
                            clear BK397
                            clear BK410
                            clear HB
                            have HO404 := n0_
                            have HO407 := n1_
                            have BK397 := n2_
                            have BK410 := n3_
                            have HB := n4_
                            clear n0_ n1_ n2_ n3_ n4_
                            obtain ⟨Ao107, co107, eo107⟩ := Kd.R_slice HO407.out
                            (first | subst eo107 | (injection eo107 with f1_ f2_ f3_; have f4_ := f1_.symm; have f5_ := f3_.symm; clear f1_ f2_ f3_; subst f4_; subst f5_))
                            refine start_ (n := 20) (S := fun w' => w'.cell? ⟨gb410, 0, none⟩ = some (.int .i64 t408) ∧ w'.cell? ⟨gb410, 1, none⟩ = some (.int .i64 t409)) (ds := []) #[false, false, false, false, false, false, false, false, false, false, false, false, false, false, false, false, false, false, false, false] (by kernel_rfl) rfl rfl ⟨(blk_cell BK410.out 0).trans rfl, (blk_cell BK410.out 1).trans rfl⟩ (fun hHeld => ?_); refine with_tabW glebelaw8_IsctBack.tab14 glebelaw8_IsctBack.bits14 (fun HT_ HW_ => ?_)
                            generalize w105.drew = w106 at HO404 HO407 BK397 BK410 HB hHeld ⊢
                            refine pure_ (i := 0) (N := some 90) (v := ?_) (a' := ?_) #[true, false, false, false, false, false, false, false, false, false, false, false, false, false, false, false, false, false, false, false] rfl rfl (any_of HT_.out (by kernel_rfl)) (fun _ _ _ h => h) (Or.inl ⟨by rfl, ?_⟩) ?_ ?_
                            rotate_left
                            · intro w'
                              go_simp
                              with_reducible rfl
                            rotate_left
                            · simp only [Act.put, List.setIfInBounds_toArray, List.set_cons_zero, List.set_cons_succ, i64_w, i32_w]
                              rfl
                            refine pure_ (i := 1) (N := some 91) (v := ?_) (a' := ?_) #[true, true, false, false, false, false, false, false, false, false, false, false, false, false, false, false, false, false, false, false] rfl rfl (any_of HT_.out (by kernel_rfl)) (fun _ _ _ h => h) (Or.inl ⟨by rfl, ?_⟩) ?_ ?_
                            rotate_left
                            · intro w'
                              go_simp
                              with_reducible rfl
                            rotate_left
                            · simp only [Act.put, List.setIfInBounds_toArray, List.set_cons_zero, List.set_cons_succ, i64_w, i32_w]
                              rfl
                            refine pure_ (i := 2) (N := some 92) (v := ?_) (a' := ?_) #[true, true, true, false, false, false, false, false, false, false, false, false, false, false, false, false, false, false, false, false] rfl rfl (any_of HT_.out (by kernel_rfl)) (fun _ _ _ h => h) (Or.inl ⟨by rfl, ?_⟩) ?_ ?_
                            rotate_left
                            · intro w'
                              go_simp
                              with_reducible rfl
                            rotate_left
                            · simp only [Act.put, List.setIfInBounds_toArray, List.set_cons_zero, List.set_cons_succ, i64_w, i32_w]
                              rfl
                            refine pure_ (i := 3) (N := some 93) (v := ?_) (a' := ?_) #[true, true, true, true, false, false, false, false, false, false, false, false, false, false, false, false, false, false, false, false] rfl rfl (any_of HT_.out (by kernel_rfl)) (fun _ _ _ h => h) (Or.inl ⟨by rfl, ?_⟩) ?_ ?_
                            rotate_left
                            · intro w'
                              go_simp
                              with_reducible rfl
                            rotate_left
                            · simp only [Act.put, List.setIfInBounds_toArray, List.set_cons_zero, List.set_cons_succ, i64_w, i32_w]
                              rfl
                            refine pure_ (i := 4) (N := some 94) (v := ?_) (a' := ?_) #[true, true, true, true, true, false, false, false, false, false, false, false, false, false, false, false, false, false, false, false] rfl rfl (any_of HT_.out (by kernel_rfl)) (fun _ _ _ h => h) (Or.inl ⟨by rfl, ?_⟩) ?_ ?_
                            rotate_left
                            · intro w'
                              go_simp
                              with_reducible rfl
                            rotate_left
                            · simp only [Act.put, List.setIfInBounds_toArray, List.set_cons_zero, List.set_cons_succ, i64_w, i32_w]
                              rfl
                            refine take_ (i := 5) (N := some 95) (v := ?_) (a' := ?_) #[true, true, true, true, true, true, false, false, false, false, false, false, false, false, false, false, false, false, false, false] rfl rfl (take_ofW HT_.out HW_.out (by kernel_rfl)) (fun _ _ _ h => h) (Or.inl ⟨by rfl, ?_⟩) hHeld ?_ ?_
                            rotate_left
                            · rintro w' ⟨s0, s1⟩
                              go_simp
                              with_reducible rfl
                            rotate_left
                            · simp only [Act.put, List.setIfInBounds_toArray, List.set_cons_zero, List.set_cons_succ, i64_w, i32_w]
                              rfl
                            refine pure_ (i := 6) (N := some 96) (v := ?_) (a' := ?_) #[true, true, true, true, true, true, true, false, false, false, false, false, false, false, false, false, false, false, false, false] rfl rfl (any_of HT_.out (by kernel_rfl)) (fun _ _ _ h => h) (Or.inl ⟨by rfl, ?_⟩) ?_ ?_
                            rotate_left
                            · intro w'
                              go_simp
                              with_reducible rfl
                            rotate_left
                            · simp only [Act.put, List.setIfInBounds_toArray, List.set_cons_zero, List.set_cons_succ, i64_w, i32_w]
                              rfl
                            refine pure_ (i := 7) (N := some 97) (v := ?_) (a' := ?_) #[true, true, true, true, true, true, true, true, false, false, false, false, false, false, false, false, false, false, false, false] rfl rfl (any_of HT_.out (by kernel_rfl)) (fun _ _ _ h => h) (Or.inl ⟨by rfl, ?_⟩) ?_ ?_
                            rotate_left
                            · intro w'
                              go_simp
                              with_reducible rfl
                            rotate_left
                            · simp only [Act.put, List.setIfInBounds_toArray, List.set_cons_zero, List.set_cons_succ, i64_w, i32_w]
                              rfl
                            refine pure_ (i := 8) (N := some 98) (v := ?_) (a' := ?_) #[true, true, true, true, true, true, true, true, true, false, false, false, false, false, false, false, false, false, false, false] rfl rfl (any_of HT_.out (by kernel_rfl)) (fun _ _ _ h => h) (Or.inl ⟨by rfl, ?_⟩) ?_ ?_
                            rotate_left
                            · intro w'
                              go_simp
                              with_reducible rfl
                            rotate_left
                            · simp only [Act.put, List.setIfInBounds_toArray, List.set_cons_zero, List.set_cons_succ, i64_w, i32_w]
                              rfl
                            refine pure_ (i := 9) (N := some 99) (v := ?_) (a' := ?_) #[true, true, true, true, true, true, true, true, true, true, false, false, false, false, false, false, false, false, false, false] rfl rfl (any_of HT_.out (by kernel_rfl)) (fun _ _ _ h => h) (Or.inl ⟨by rfl, ?_⟩) ?_ ?_
                            rotate_left
                            · intro w'
                              go_simp
                              with_reducible rfl
                            rotate_left
                            · simp only [Act.put, List.setIfInBounds_toArray, List.set_cons_zero, List.set_cons_succ, i64_w, i32_w]
                              rfl
                            refine pure_ (i := 11) (N := some 101) (v := ?_) (a' := ?_) #[true, true, true, true, true, true, true, true, true, true, false, true, false, false, false, false, false, false, false, false] rfl rfl (any_of HT_.out (by kernel_rfl)) (fun _ _ _ h => h) (Or.inl ⟨by rfl, ?_⟩) ?_ ?_
                            rotate_left
                            · intro w'
                              go_simp
                              with_reducible rfl
                            rotate_left
                            · simp only [Act.put, List.setIfInBounds_toArray, List.set_cons_zero, List.set_cons_succ, i64_w, i32_w]
                              rfl
                            refine take_ (i := 10) (N := some 100) (v := ?_) (a' := ?_) #[true, true, true, true, true, true, true, true, true, true, true, true, false, false, false, false, false, false, false, false] rfl rfl (take_ofW HT_.out HW_.out (by kernel_rfl)) (fun _ _ _ h => h) (Or.inl ⟨by rfl, ?_⟩) hHeld ?_ ?_
                            rotate_left
                            · rintro w' ⟨s0, s1⟩
                              go_simp
                              with_reducible rfl
                            rotate_left
                            · simp only [Act.put, List.setIfInBounds_toArray, List.set_cons_zero, List.set_cons_succ, i64_w, i32_w]
                              rfl
                            refine one_ (i := 12) (N := some 102) #[true, true, true, true, true, true, true, true, true, true, true, true, true, false, false, false, false, false, false, false] rfl rfl (one_of HT_.out (by kernel_rfl)) (by decide) (fun K hK => ?_)
                            refine goes_ Try.func16 (by kernel_rfl) rfl #[.slice A1 l1.length c1] (by rfl) rfl rfl (by (try simp only [List.map_toArray, List.map_cons, List.map_nil]); first | done | rfl | (simp only [List.length_drop, List.length_take]; rfl)) ?_
                            with_reducible refine (glebelaw8_Text.calls kj16 _ _ l1 t411 _ ?side1 ?side2 A96.out).mono ?_
                            (case side1 => repeat (first | exact (Kd.C_below HR1.out HB.out) | (with_reducible refine Kd.C_alloc ?_ _) | (with_reducible refine Kd.C_drewN ?_ _) | (with_reducible refine Kd.C_drew ?_)))
                            (case side2 => exact HC1.out)
                            rintro e w108 ⟨v412, rfl, ho0, hb⟩
                            refine ⟨_, rfl, ?_⟩
                            have n0_ := Aside0.mk (Kd.R_elder' (by (with_reducible repeat (first | apply Kd.R_alloc | apply Kd.R_drewN | apply Kd.R_drew)); exact HO404.out) (Kd.R_base ho0) hb)
                            have n1_ := Aside0.mk (Kd.R_below (by (with_reducible repeat (first | apply Kd.R_alloc | apply Kd.R_drewN | apply Kd.R_drew)); exact HO407.out) hb)
                            have n2_ := Aside0.mk (Kd.R_lower (Kd.R_new' ho0 (Kd.R_lt (by (with_reducible repeat (first | apply Kd.R_alloc | apply Kd.R_drewN | apply Kd.R_drew)); exact HO404.out))) (below_size (by repeat (first | (with_reducible first | exact HB.out | apply below_alloc | apply pw_below_drewN | apply below_drew1 | refine below_set ?_ GE397.out | refine below_set ?_ GE410.out) | exact HB.out))))
                            have n3_ := Aside0.mk (blk_below (g := gb397) (o := .cells #[.int .i64 t395, .int .i64 t396] 26 (0, 0)) (by (with_reducible repeat (first | refine blk_drewN ?_ _ | refine blk_drew ?_ | refine blk_alloc ?_ _)); exact BK397.out) hb)
                            have n4_ := Aside0.mk (blk_below (g := gb410) (o := .cells #[.int .i64 t408, .int .i64 t409] 26 (0, 0)) (by (with_reducible repeat (first | refine blk_drewN ?_ _ | refine blk_drew ?_ | refine blk_alloc ?_ _)); exact BK410.out) hb)
                            have n5_ := Aside0.mk (below_step (by repeat (first | (with_reducible first | exact HB.out | apply below_alloc | apply pw_below_drewN | apply below_drew1 | refine below_set ?_ GE397.out | refine below_set ?_ GE410.out) | exact HB.out)) hb)
                            clear HO404
                            clear HO407
                            clear BK397
                            clear BK410
                            clear HB
                            have HO404 := n0_
                            have HO407 := n1_
                            have HO413 := n2_
                            have BK397 := n3_
                            have BK410 := n4_
                            have HB := n5_
                            clear n0_ n1_ n2_ n3_ n4_ n5_
                            (try clear hb)
                            (try clear hb2)
                            (try clear hk)
                            (try clear hi)
                            (try clear ho0)
                            obtain ⟨Ao109, co109, eo109⟩ := Kd.R_slice HO413.out
                            (first | subst eo109 | (injection eo109 with f1_ f2_ f3_; have f4_ := f1_.symm; have f5_ := f3_.symm; clear f1_ f2_ f3_; subst f4_; subst f5_))
                            refine hK.out _ _ ⟨(blk_cell BK410.out 0).trans rfl, (blk_cell BK410.out 1).trans rfl⟩ (fun hHeld => ?_)
                            clear hK K
                            refine norm_ (a' := ?_) ?_ ?_
                            rotate_left
                            · show Act.put _ (some 102) _ = _
                              simp only [Act.put, List.setIfInBounds_toArray, List.set_cons_zero, List.set_cons_succ, i64_w, i32_w]
                              rfl
                            refine pure_ (i := 13) (N := some 103) (v := ?_) (a' := ?_) #[true, true, true, true, true, true, true, true, true, true, true, true, true, true, false, false, false, false, false, false] rfl rfl (any_of HT_.out (by kernel_rfl)) (fun _ _ _ h => h) (Or.inl ⟨by rfl, ?_⟩) ?_ ?_
                            rotate_left
                            · intro w'
                              go_simp
                              with_reducible rfl
                            rotate_left
                            · simp only [Act.put, List.setIfInBounds_toArray, List.set_cons_zero, List.set_cons_succ, i64_w, i32_w]
                              rfl
                            refine pure_ (i := 14) (N := some 104) (v := ?_) (a' := ?_) #[true, true, true, true, true, true, true, true, true, true, true, true, true, true, true, false, false, false, false, false] rfl rfl (any_of HT_.out (by kernel_rfl)) (fun _ _ _ h => h) (Or.inl ⟨by rfl, ?_⟩) ?_ ?_
                            rotate_left
                            · intro w'
                              go_simp
                              with_reducible rfl
                            rotate_left
                            · simp only [Act.put, List.setIfInBounds_toArray, List.set_cons_zero, List.set_cons_succ, i64_w, i32_w]
                              rfl
                            refine pure_ (i := 15) (N := some 105) (v := ?_) (a' := ?_) #[true, true, true, true, true, true, true, true, true, true, true, true, true, true, true, true, false, false, false, false] rfl rfl (any_of HT_.out (by kernel_rfl)) (fun _ _ _ h => h) (Or.inl ⟨by rfl, ?_⟩) ?_ ?_
                            rotate_left
                            · intro w'
                              go_simp
                              with_reducible rfl
                            rotate_left
                            · simp only [Act.put, List.setIfInBounds_toArray, List.set_cons_zero, List.set_cons_succ, i64_w, i32_w]
                              rfl
                            refine pure_ (i := 16) (N := some 106) (v := ?_) (a' := ?_) #[true, true, true, true, true, true, true, true, true, true, true, true, true, true, true, true, true, false, false, false] rfl rfl (any_of HT_.out (by kernel_rfl)) (fun _ _ _ h => h) (Or.inl ⟨by rfl, ?_⟩) ?_ ?_
                            rotate_left
                            · intro w'
                              go_simp
                              with_reducible rfl
                            rotate_left
                            · simp only [Act.put, List.setIfInBounds_toArray, List.set_cons_zero, List.set_cons_succ, i64_w, i32_w]
                              rfl
                            refine one_ (i := 17) (N := some 107) #[true, true, true, true, true, true, true, true, true, true, true, true, true, true, true, true, true, true, false, false] rfl rfl (one_of HT_.out (by kernel_rfl)) (by decide) (fun K hK => ?_)
                            refine goes_ Try.func15 (by kernel_rfl) rfl #[] (by rfl) rfl rfl (by (try simp only [List.map_toArray, List.map_cons, List.map_nil]); first | done | rfl | (simp only [List.length_drop, List.length_take]; rfl)) ?_
                            with_reducible refine (glebelaw8_awake.calls kj16  t414 _ A98.out).mono ?_
                            rintro e w110 ⟨rfl, hb⟩
                            refine ⟨_, rfl, ?_⟩
                            have n0_ := Aside0.mk (Kd.R_below (by (with_reducible repeat (first | apply Kd.R_alloc | apply Kd.R_drewN | apply Kd.R_drew)); exact HO404.out) hb)
                            have n1_ := Aside0.mk (Kd.R_below (by (with_reducible repeat (first | apply Kd.R_alloc | apply Kd.R_drewN | apply Kd.R_drew)); exact HO407.out) hb)
                            have n2_ := Aside0.mk (Kd.R_below (by (with_reducible repeat (first | apply Kd.R_alloc | apply Kd.R_drewN | apply Kd.R_drew)); exact HO413.out) hb)
                            have n3_ := Aside0.mk (blk_below (g := gb397) (o := .cells #[.int .i64 t395, .int .i64 t396] 26 (0, 0)) (by (with_reducible repeat (first | refine blk_drewN ?_ _ | refine blk_drew ?_ | refine blk_alloc ?_ _)); exact BK397.out) hb)
                            have n4_ := Aside0.mk (blk_below (g := gb410) (o := .cells #[.int .i64 t408, .int .i64 t409] 26 (0, 0)) (by (with_reducible repeat (first | refine blk_drewN ?_ _ | refine blk_drew ?_ | refine blk_alloc ?_ _)); exact BK410.out) hb)
                            have n5_ := Aside0.mk (below_step (by repeat (first | (with_reducible first | exact HB.out | apply below_alloc | apply pw_below_drewN | apply below_drew1 | refine below_set ?_ GE397.out | refine below_set ?_ GE410.out) | exact HB.out)) hb)
                            clear HO404
                            clear HO407
                            clear HO413
                            clear BK397
                            clear BK410
                            clear HB
                            have HO404 := n0_
                            have HO407 := n1_
                            have HO413 := n2_
                            have BK397 := n3_
                            have BK410 := n4_
                            have HB := n5_
                            clear n0_ n1_ n2_ n3_ n4_ n5_
                            (try clear hb)
                            (try clear hb2)
                            (try clear hk)
                            (try clear hi)
                            refine hK.out _ _ ⟨(blk_cell BK410.out 0).trans rfl, (blk_cell BK410.out 1).trans rfl⟩ (fun hHeld => ?_)
                            clear hK K
                            refine norm_ (a' := ?_) ?_ ?_
                            rotate_left
                            · show Act.put _ (some 107) _ = _
                              simp only [Act.put, List.setIfInBounds_toArray, List.set_cons_zero, List.set_cons_succ, i64_w, i32_w]
                              rfl
                            refine pure_ (i := 18) (N := some 108) (v := ?_) (a' := ?_) #[true, true, true, true, true, true, true, true, true, true, true, true, true, true, true, true, true, true, true, false] rfl rfl (any_of HT_.out (by kernel_rfl)) (fun _ _ _ h => h) (Or.inl ⟨by rfl, ?_⟩) ?_ ?_
                            rotate_left
                            · intro w'
                              go_simp
                              with_reducible rfl
                            rotate_left
                            · simp only [Act.put, List.setIfInBounds_toArray, List.set_cons_zero, List.set_cons_succ, i64_w, i32_w]
                              rfl
                            refine pure_ (i := 19) (N := some 4) (v := ?_) (a' := ?_) #[true, true, true, true, true, true, true, true, true, true, true, true, true, true, true, true, true, true, true, true] rfl rfl (any_of HT_.out (by kernel_rfl)) (fun _ _ _ h => h) (Or.inl ⟨by rfl, ?_⟩) ?_ ?_
                            rotate_left
                            · intro w'
                              go_simp
                              with_reducible rfl
                            rotate_left
                            · simp only [Act.put, List.setIfInBounds_toArray, List.set_cons_zero, List.set_cons_succ, i64_w, i32_w]
                              rfl
                            refine done_ (done_of HT_.out (by kernel_rfl)) ?_
                            try go_wp2
                            go_ret
                            exact ⟨by first | rfl | (simp [errW_none, errW_some] <;> rfl) | (simp [*, errW_none, errW_some] <;> rfl), by repeat (first | (with_reducible first | exact HB.out | apply below_alloc | apply pw_below_drewN | apply below_drew1 | refine below_set ?_ GE397.out | refine below_set ?_ GE410.out) | exact HB.out)⟩
                          · rw [if_neg c97] at H
                            exact absurd H (by simp)
                        · rw [if_neg c95] at H
                          exact absurd H (by simp)
                      · rw [if_neg c94] at H
                        exact absurd H (by simp)
            · rw [if_neg c15] at H
              exact absurd H (by simp)
          · rw [if_neg c14] at H
            exact absurd H (by simp)

/-- THE ONE PURE STATEMENT of glebelaw8_IsctBack: yours. -/
def glebelaw8_IsctBack.Pure : Prop := ∀ (l0 : List Int) (l1 : List Int), l0.length ≤ maxLen → l0.length * 1 ≤ 140737488351232 → (∀ x ∈ l0, (Lit.int .u8 x).wf = true) → l1.length ≤ maxLen → l1.length * 8 ≤ 140737488351232 → (∀ x ∈ l1, (Lit.int .i64 x).wf = true) → ∃ k, glebelaw8_IsctBack.f k l0 l1 = some true
theorem glebelaw8_IsctBack.walk (P : glebelaw8_IsctBack.Pure) (a0 : Option Addr) (len0 cap0 : Nat) (z0 : List Int) (a1 : Option Addr) (len1 cap1 : Nat) (z1 : List Int) (w : World) (w0 : (a0 = none ∧ len0 = 0 ∧ cap0 = 0 ∧ z0 = []) ∨ ∃ x, a0 = some x ∧ len0 ≤ cap0 ∧ cap0 ≤ maxLen ∧ z0.length = cap0 ∧ (∀ i, i < z0.length → w.cell? (x.add i) = some (.int .u8 (z0.getD i 0))) ∧ ∀ n ∈ z0, (Lit.int .u8 n).wf = true) (y0 : len0 * 1 ≤ 140737488351232) (w1 : (a1 = none ∧ len1 = 0 ∧ cap1 = 0 ∧ z1 = []) ∨ ∃ x, a1 = some x ∧ len1 ≤ cap1 ∧ cap1 ≤ maxLen ∧ z1.length = cap1 ∧ (∀ i, i < z1.length → w.cell? (x.add i) = some (.int .i64 (z1.getD i 0))) ∧ ∀ n ∈ z1, (Lit.int .i64 n).wf = true) (y1 : len1 * 8 ≤ 140737488351232) :
    Calls Try.prog 6 #[.slice a0 len0 cap0, .slice a1 len1 cap1] w fun e w' => e = .returned (.bool true) ∧ Below w.heap.size w w' := by
  obtain ⟨l0, rfl, hr0, hm0, hw0, hc0⟩ := ReadsInt.ofRowC w0
  obtain ⟨l1, rfl, hr1, hm1, hw1, hc1⟩ := ReadsInt.ofRowC w1
  obtain ⟨k, h⟩ := P l0 l1 hm0 y0 hw0 hm1 y1 hw1
  refine (glebelaw8_IsctBack.calls k _ _ l0 _ _ l1 true w (Kd.C_of_reads (d := (0 : Int)) (h1 := fun _ => rfl) hr0) hc0 (Kd.C_of_reads (d := (0 : Int)) (h1 := fun _ => rfl) hr1) hc1 h).mono ?_
  rintro e w' ⟨rfl, hd⟩
  exact ⟨rfl, hd⟩

end Go.Proofs.Ytnkcffmklomfhaa.X
