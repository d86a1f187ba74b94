-- Printed by this session's own program (wip/xprint) out of the translation. Lean checks it.
import Derived.Test.YtcgchblljhbdaaaDoorMx0
import Derived.Test.YtcgchblljhbdaaaDoorMx1
import Derived.Test.YtcgchblljhbdaaaDoorMx2
import Derived.Test.YtcgchblljhbdaaaDoorMx5
import Derived.Test.YtcgchblljhbdaaaDoorMx6
namespace Go.Proofs.YtcgchblljhbdaaaDoor.M
open Go.Proofs.YtcgchblljhbdaaaDoor
open Go.RowKit Go.Proofs.YtcgchblljhbdaaaDoorW.PrintWords Go.Proofs.YtcgchblljhbdaaaDoorW.PrintLast Go.Proofs.YtcgchblljhbdaaaDoorW.PrintMore
attribute [local go_sem] max2_int min2_int max_two min_two max_three min_three max_four min_four   -- for this text's walks alone
set_option linter.unusedVariables false
set_option linter.unusedSimpArgs false

/-! ### glebelaw5_MacsTells: function 9 -/
def glebelaw5_MacsTells.l0 : Nat → Int → ByteArray → List ByteArray → Int → Int → Option (Bool)
  | 0, _, _, _, _, _ => none
  | k + 1, x1, x9, x71, x72, x73 => if x73 < x72 then (if 0 ≤ x73 then (if x73 < (x71.length : Int) then ((macs_Parse.f k (rdOf ByteArray.empty x71 x73)).bind fun bt210 => ((gleberef1_Mac.f k (rdOf ByteArray.empty x71 x73)).bind fun bt212 => (if bt210.1 = bt212.1 then (if (bt210.2 != bt212.2) = true then (none) else ((macs_Name.f k (rdOf ByteArray.empty x71 x73)).bind fun t214 => ((gleberef1_Name.f k (rdOf ByteArray.empty x71 x73)).bind fun t215 => (if (t214 != t215) = true then (none) else (glebelaw5_MacsTells.l0 k x1 x9 x71 x72 (wrap64 (x73 + 1))))))) else (none)))) else (none)) else (none)) else ((macs_Print.f k x1).bind fun bt216 => ((gleberef1_PrintMac.f k x1).bind fun bt218 => ((macs_Parse.f k x9).bind fun bt220 => (if bt216.1.toList = bt218.1.toList then (if (bt216.2 == bt218.2) = true then (if bt220.2 = true then (if bt220.1 = (Go.bits .and .u64 x1 281474976710655) then ((glebelaw5_awake.f k).bind fun t222 => (some t222)) else (none)) else (none)) else (none)) else (none)))))
def glebelaw5_MacsTells.f (k : Nat) (l0 : List Int) (a1 : Int) (a2 : Int) (a3 : Int) : Option (Bool) := if (l0.length : Int) > 100 then ((glebelaw5_awake.f k).bind fun t197 => (some t197)) else ((gleberef1_PrintMac.f k (Go.bits .and .u64 a1 281474976710655)).bind fun bt198 => (if (bt198.1.size : Int) = 0 then (none) else (if 0 ≤ (Int.tmod (Go.bits .and .i64 a2 255) (bt198.1.size : Int)) then (if (Int.tmod (Go.bits .and .i64 a2 255) (bt198.1.size : Int)) ≤ (bt198.1.size : Int) then ((some (([a3] : List Int) : List Int)).bind fun y200 => (if (bt198.1.extract 0 ((Int.tmod (Go.bits .and .i64 a2 255) (bt198.1.size : Int)) : Int).toNat).size + (strOfNums y200).size ≤ 9223372036854775807 then (if 0 ≤ (wrap64 ((Int.tmod (Go.bits .and .i64 a2 255) (bt198.1.size : Int)) + 1)) then (if (wrap64 ((Int.tmod (Go.bits .and .i64 a2 255) (bt198.1.size : Int)) + 1)) ≤ (bt198.1.size : Int) then (if (bt198.1.extract 0 ((Int.tmod (Go.bits .and .i64 a2 255) (bt198.1.size : Int)) : Int).toNat).size + (strOfNums y200).size + (bt198.1.extract ((wrap64 ((Int.tmod (Go.bits .and .i64 a2 255) (bt198.1.size : Int)) + 1)) : Int).toNat bt198.1.size).size ≤ 9223372036854775807 then (if (bt198.1.extract 0 ((Int.tmod (Go.bits .and .i64 a2 255) (bt198.1.size : Int)) : Int).toNat).size + 1 ≤ 9223372036854775807 then (if (bt198.1.extract 0 ((Int.tmod (Go.bits .and .i64 a2 255) (bt198.1.size : Int)) : Int).toNat).size + 1 + (bt198.1.extract ((wrap64 ((Int.tmod (Go.bits .and .i64 a2 255) (bt198.1.size : Int)) + 1)) : Int).toNat bt198.1.size).size ≤ 9223372036854775807 then ((some (([a3] : List Int) : List Int)).bind fun y203 => (if bt198.1.size + (strOfNums y203).size ≤ 9223372036854775807 then ((some (([strOfNums l0, bt198.1, ((bt198.1.extract 0 ((Int.tmod (Go.bits .and .i64 a2 255) (bt198.1.size : Int)) : Int).toNat) ++ (strOfNums y200)) ++ (bt198.1.extract ((wrap64 ((Int.tmod (Go.bits .and .i64 a2 255) (bt198.1.size : Int)) + 1)) : Int).toNat bt198.1.size), bt198.1.extract 0 ((Int.tmod (Go.bits .and .i64 a2 255) (bt198.1.size : Int)) : Int).toNat, ((bt198.1.extract 0 ((Int.tmod (Go.bits .and .i64 a2 255) (bt198.1.size : Int)) : Int).toNat) ++ (⟨#[65]⟩ : ByteArray)) ++ (bt198.1.extract ((wrap64 ((Int.tmod (Go.bits .and .i64 a2 255) (bt198.1.size : Int)) + 1)) : Int).toNat bt198.1.size), bt198.1 ++ (strOfNums y203)] : List ByteArray) : List ByteArray)).bind fun y206 => (glebelaw5_MacsTells.l0 k a1 bt198.1 y206 (y206.length : Int) 0)) else (none))) else (none)) else (none)) else (none)) else (none)) else (none)) else (none))) else (none)) else (none))))
theorem glebelaw5_MacsTells.mono_l : ∀ k, (∀ y0 y1 y2 y3 y4, LeO (glebelaw5_MacsTells.l0 k y0 y1 y2 y3 y4) (glebelaw5_MacsTells.l0 (k + 1) y0 y1 y2 y3 y4))
  | 0 => fun _ _ _ _ _ r h => by simp [glebelaw5_MacsTells.l0] at h
  | k + 1 => by
    have ih0 := glebelaw5_MacsTells.mono_l k
    · intro y0 y1 y2 y3 y4
      unfold glebelaw5_MacsTells.l0
      repeat' first
      | (with_reducible exact ih0 _ _ _ _ _)
      | (with_reducible exact glebelaw5_awake.mono _)
      | (with_reducible exact gleberef1_Mac.mono _ _)
      | (with_reducible exact gleberef1_Name.mono _ _)
      | (with_reducible exact gleberef1_PrintMac.mono _ _)
      | (with_reducible exact macs_Name.mono _ _)
      | (with_reducible exact macs_Parse.mono _ _)
      | (with_reducible exact macs_Print.mono _ _)
      | (with_reducible exact LeO.refl _)
      | (with_reducible exact LeO.none _)
      | (with_reducible refine LeO.ite ?_ ?_)
      | (with_reducible refine LeO.bind ?_ (fun _ => ?_))
      | exact ih0 _ _ _ _ _
      | exact glebelaw5_awake.mono _
      | exact gleberef1_Mac.mono _ _
      | exact gleberef1_Name.mono _ _
      | exact gleberef1_PrintMac.mono _ _
      | exact macs_Name.mono _ _
      | exact macs_Parse.mono _ _
      | exact macs_Print.mono _ _
      | exact LeO.none _
      | refine LeO.ite ?_ ?_
      | refine LeO.bind ?_ (fun _ => ?_)
theorem glebelaw5_MacsTells.mono : ∀ a0 a1 a2 a3 k, LeO (glebelaw5_MacsTells.f k a0 a1 a2 a3) (glebelaw5_MacsTells.f (k + 1) a0 a1 a2 a3) := by
  intro a0 a1 a2 a3 k
  have ih0 := glebelaw5_MacsTells.mono_l k
  unfold glebelaw5_MacsTells.f
  repeat' first
      | (with_reducible exact ih0 _ _ _ _ _)
      | (with_reducible exact glebelaw5_awake.mono _)
      | (with_reducible exact gleberef1_Mac.mono _ _)
      | (with_reducible exact gleberef1_Name.mono _ _)
      | (with_reducible exact gleberef1_PrintMac.mono _ _)
      | (with_reducible exact macs_Name.mono _ _)
      | (with_reducible exact macs_Parse.mono _ _)
      | (with_reducible exact macs_Print.mono _ _)
      | (with_reducible exact LeO.refl _)
      | (with_reducible exact LeO.none _)
      | (with_reducible refine LeO.ite ?_ ?_)
      | (with_reducible refine LeO.bind ?_ (fun _ => ?_))
      | exact ih0 _ _ _ _ _
      | exact glebelaw5_awake.mono _
      | exact gleberef1_Mac.mono _ _
      | exact gleberef1_Name.mono _ _
      | exact gleberef1_PrintMac.mono _ _
      | exact macs_Name.mono _ _
      | exact macs_Parse.mono _ _
      | exact macs_Print.mono _ _
      | exact LeO.none _
      | refine LeO.ite ?_ ?_
      | refine LeO.bind ?_ (fun _ => ?_)
def glebelaw5_MacsTells.T5 : Bool × List (List Nat × List Nat) := (true, [([], []), ([0], [0]), ([], []), ([], []), ([], []), ([3, 4], [3, 4]), ([], []), ([6], [6]), ([7], [7]), ([5, 8], [5, 8]), ([], []), ([], []), ([11], [11]), ([10, 12], [10, 12]), ([9, 13], [9, 13]), ([], []), ([], []), ([15, 16], [15, 16]), ([], []), ([], []), ([18, 19], [18, 19]), ([20], [20]), ([], []), ([], []), ([23], [23]), ([22, 24], [22, 24]), ([21, 25], [21, 25]), ([], []), ([], []), ([28], [28]), ([29], [29]), ([27, 30], [27, 30]), ([1, 2, 14, 17, 26, 31], [1, 2, 14, 17, 26, 31]), ([32], [32]), ([], [])])
def glebelaw5_MacsTells.B5 : List Nat := [0, 1, 0, 0, 0, 24, 0, 64, 192, 504, 0, 0, 2048, 7168, 16376, 0, 0, 98304, 0, 0, 786432, 1835008, 0, 0, 8388608, 29360128, 66846720, 0, 0, 268435456, 805306368, 2013265920, 4294967295, 8589934591, 0]
theorem glebelaw5_MacsTells.tab5 : rtab .any (opsOf Tryd.f9 5) = glebelaw5_MacsTells.T5 := by kernel_rfl
theorem glebelaw5_MacsTells.bits5 : waitsOk glebelaw5_MacsTells.T5.2 glebelaw5_MacsTells.B5 = true := by kernel_rfl
set_option maxHeartbeats 8000000 in
set_option maxRecDepth 100000 in
theorem glebelaw5_MacsTells.calls (k : Nat) (A0 : Option Addr) (c0 : Nat) (l0 : List Int) (a1 : Int) (a2 : Int) (a3 : Int) (r : Bool) (w : World) (hr0 : Kd.C (Kd.int .u8) w A0 l0.length l0) (hc0 : l0.length ≤ c0) (h : glebelaw5_MacsTells.f k l0 a1 a2 a3 = some r) :
    Calls Tryd.prog 9 #[.slice A0 l0.length c0, .int .u64 a1, .int .i64 a2, .int .u8 a3] w fun e w' => e = .returned (.bool r) ∧ Below w.heap.size w w' := by
  have HR0 := Aside0.mk hr0
  have HC0 := Aside0.mk hc0
  clear hr0 hc0
  have HB := Aside0.mk (Below.refl w.heap.size w)
  have H : (if (l0.length : Int) > 100 then ((glebelaw5_awake.f k).bind fun t197 => (some t197)) else ((gleberef1_PrintMac.f k (Go.bits .and .u64 a1 281474976710655)).bind fun bt198 => (if (bt198.1.size : Int) = 0 then (none) else (if 0 ≤ (Int.tmod (Go.bits .and .i64 a2 255) (bt198.1.size : Int)) then (if (Int.tmod (Go.bits .and .i64 a2 255) (bt198.1.size : Int)) ≤ (bt198.1.size : Int) then ((some (([a3] : List Int) : List Int)).bind fun y200 => (if (bt198.1.extract 0 ((Int.tmod (Go.bits .and .i64 a2 255) (bt198.1.size : Int)) : Int).toNat).size + (strOfNums y200).size ≤ 9223372036854775807 then (if 0 ≤ (wrap64 ((Int.tmod (Go.bits .and .i64 a2 255) (bt198.1.size : Int)) + 1)) then (if (wrap64 ((Int.tmod (Go.bits .and .i64 a2 255) (bt198.1.size : Int)) + 1)) ≤ (bt198.1.size : Int) then (if (bt198.1.extract 0 ((Int.tmod (Go.bits .and .i64 a2 255) (bt198.1.size : Int)) : Int).toNat).size + (strOfNums y200).size + (bt198.1.extract ((wrap64 ((Int.tmod (Go.bits .and .i64 a2 255) (bt198.1.size : Int)) + 1)) : Int).toNat bt198.1.size).size ≤ 9223372036854775807 then (if (bt198.1.extract 0 ((Int.tmod (Go.bits .and .i64 a2 255) (bt198.1.size : Int)) : Int).toNat).size + 1 ≤ 9223372036854775807 then (if (bt198.1.extract 0 ((Int.tmod (Go.bits .and .i64 a2 255) (bt198.1.size : Int)) : Int).toNat).size + 1 + (bt198.1.extract ((wrap64 ((Int.tmod (Go.bits .and .i64 a2 255) (bt198.1.size : Int)) + 1)) : Int).toNat bt198.1.size).size ≤ 9223372036854775807 then ((some (([a3] : List Int) : List Int)).bind fun y203 => (if bt198.1.size + (strOfNums y203).size ≤ 9223372036854775807 then ((some (([strOfNums l0, bt198.1, ((bt198.1.extract 0 ((Int.tmod (Go.bits .and .i64 a2 255) (bt198.1.size : Int)) : Int).toNat) ++ (strOfNums y200)) ++ (bt198.1.extract ((wrap64 ((Int.tmod (Go.bits .and .i64 a2 255) (bt198.1.size : Int)) + 1)) : Int).toNat bt198.1.size), bt198.1.extract 0 ((Int.tmod (Go.bits .and .i64 a2 255) (bt198.1.size : Int)) : Int).toNat, ((bt198.1.extract 0 ((Int.tmod (Go.bits .and .i64 a2 255) (bt198.1.size : Int)) : Int).toNat) ++ (⟨#[65]⟩ : ByteArray)) ++ (bt198.1.extract ((wrap64 ((Int.tmod (Go.bits .and .i64 a2 255) (bt198.1.size : Int)) + 1)) : Int).toNat bt198.1.size), bt198.1 ++ (strOfNums y203)] : List ByteArray) : List ByteArray)).bind fun y206 => (glebelaw5_MacsTells.l0 k a1 bt198.1 y206 (y206.length : Int) 0)) else (none))) else (none)) else (none)) else (none)) else (none)) else (none)) else (none))) else (none)) else (none))))) = some r := h
  clear h
  by_cases c5 : (l0.length : Int) > 100
  · rw [if_pos c5] at H
    have c5b0 : decide (100 < (l0.length : Int)) = true := decide_eq_true c5
    have c5b1 : decide (100 < l0.length) = true := decide_eq_true (by omega)
    clear c5
    replace H := Option.bind_eq_some_iff.mp H
    obtain ⟨t197, A60, H⟩ := H
    replace H : (some t197) = some r := H
    have A6 := Aside0.mk A60
    clear A60
    obtain rfl := Option.some.inj H
    go_enter Tryd.func9, Tryd.ntmps9
    go_wp2_with (first | ((with_reducible refine gate_callee (f := 28) rfl ?_); refine goesL_ (some 27) rfl rfl Tryd.func28 (by kernel_rfl) rfl #[] rfl (by (try simp only [List.map_toArray, List.map_cons, List.map_nil]); first | done | rfl | (simp only [List.length_drop, List.length_take]; rfl)) ?_; (with_reducible refine (glebelaw5_awake.calls k  t197 _ A6.out).mono ?_); rintro e w7 ⟨rfl, hb⟩; refine ⟨_, rfl, ?_⟩; have n0_ := Aside0.mk (below_step (by repeat (first | (with_reducible first | exact HB.out | apply below_alloc | apply pw_below_drewN | apply below_drew1) | exact HB.out)) hb); clear HB; have HB := n0_; clear n0_; (try clear hb); (try clear hb2); (try clear hk); (try clear hi)))
    go_ret
    exact ⟨by first | rfl | (simp [errW_none, errW_some] <;> rfl) | (simp [*, errW_none, errW_some] <;> rfl), by repeat (first | (with_reducible first | exact HB.out | apply below_alloc | apply pw_below_drewN | apply below_drew1) | exact HB.out)⟩
  · rw [if_neg c5] at H
    have c5b0 : decide (100 < (l0.length : Int)) = false := decide_eq_false c5
    have c5b1 : decide (100 < l0.length) = false := decide_eq_false (by omega)
    clear c5
    replace H := Option.bind_eq_some_iff.mp H
    obtain ⟨⟨t198, t199⟩, A80, H⟩ := H
    replace H : (if (t198.size : Int) = 0 then (none) else (if 0 ≤ (Int.tmod (Go.bits .and .i64 a2 255) (t198.size : Int)) then (if (Int.tmod (Go.bits .and .i64 a2 255) (t198.size : Int)) ≤ (t198.size : Int) then ((some (([a3] : List Int) : List Int)).bind fun y200 => (if (t198.extract 0 ((Int.tmod (Go.bits .and .i64 a2 255) (t198.size : Int)) : Int).toNat).size + (strOfNums y200).size ≤ 9223372036854775807 then (if 0 ≤ (wrap64 ((Int.tmod (Go.bits .and .i64 a2 255) (t198.size : Int)) + 1)) then (if (wrap64 ((Int.tmod (Go.bits .and .i64 a2 255) (t198.size : Int)) + 1)) ≤ (t198.size : Int) then (if (t198.extract 0 ((Int.tmod (Go.bits .and .i64 a2 255) (t198.size : Int)) : Int).toNat).size + (strOfNums y200).size + (t198.extract ((wrap64 ((Int.tmod (Go.bits .and .i64 a2 255) (t198.size : Int)) + 1)) : Int).toNat t198.size).size ≤ 9223372036854775807 then (if (t198.extract 0 ((Int.tmod (Go.bits .and .i64 a2 255) (t198.size : Int)) : Int).toNat).size + 1 ≤ 9223372036854775807 then (if (t198.extract 0 ((Int.tmod (Go.bits .and .i64 a2 255) (t198.size : Int)) : Int).toNat).size + 1 + (t198.extract ((wrap64 ((Int.tmod (Go.bits .and .i64 a2 255) (t198.size : Int)) + 1)) : Int).toNat t198.size).size ≤ 9223372036854775807 then ((some (([a3] : List Int) : List Int)).bind fun y203 => (if t198.size + (strOfNums y203).size ≤ 9223372036854775807 then ((some (([strOfNums l0, t198, ((t198.extract 0 ((Int.tmod (Go.bits .and .i64 a2 255) (t198.size : Int)) : Int).toNat) ++ (strOfNums y200)) ++ (t198.extract ((wrap64 ((Int.tmod (Go.bits .and .i64 a2 255) (t198.size : Int)) + 1)) : Int).toNat t198.size), t198.extract 0 ((Int.tmod (Go.bits .and .i64 a2 255) (t198.size : Int)) : Int).toNat, ((t198.extract 0 ((Int.tmod (Go.bits .and .i64 a2 255) (t198.size : Int)) : Int).toNat) ++ (⟨#[65]⟩ : ByteArray)) ++ (t198.extract ((wrap64 ((Int.tmod (Go.bits .and .i64 a2 255) (t198.size : Int)) + 1)) : Int).toNat t198.size), t198 ++ (strOfNums y203)] : List ByteArray) : List ByteArray)).bind fun y206 => (glebelaw5_MacsTells.l0 k a1 t198 y206 (y206.length : Int) 0)) else (none))) else (none)) else (none)) else (none)) else (none)) else (none)) else (none))) else (none)) else (none))) = some r := H
    have A8 := Aside0.mk A80
    clear A80
    by_cases c9 : (t198.size : Int) = 0
    · rw [if_pos c9] at H
      exact absurd H (by simp)
    · rw [if_neg c9] at H
      have c9b0 : ((t198.size : Int) == 0) = false := beq_eq_false_iff_ne.mpr c9
      have c9b1 : ((t198.size : Int) != 0) = true := bne_iff_ne.mpr c9
      obtain ⟨ji10, hji10⟩ : ∃ j_ : Int, (Int.tmod (Go.bits .and .i64 a2 255) (t198.size : Int)) = j_ := ⟨_, rfl⟩
      replace H : (if 0 ≤ (ji10) then (if (ji10) ≤ (t198.size : Int) then ((some (([a3] : List Int) : List Int)).bind fun y200 => (if (t198.extract 0 ((ji10) : Int).toNat).size + (strOfNums y200).size ≤ 9223372036854775807 then (if 0 ≤ (wrap64 ((ji10) + 1)) then (if (wrap64 ((ji10) + 1)) ≤ (t198.size : Int) then (if (t198.extract 0 ((ji10) : Int).toNat).size + (strOfNums y200).size + (t198.extract ((wrap64 ((ji10) + 1)) : Int).toNat t198.size).size ≤ 9223372036854775807 then (if (t198.extract 0 ((ji10) : Int).toNat).size + 1 ≤ 9223372036854775807 then (if (t198.extract 0 ((ji10) : Int).toNat).size + 1 + (t198.extract ((wrap64 ((ji10) + 1)) : Int).toNat t198.size).size ≤ 9223372036854775807 then ((some (([a3] : List Int) : List Int)).bind fun y203 => (if t198.size + (strOfNums y203).size ≤ 9223372036854775807 then ((some (([strOfNums l0, t198, ((t198.extract 0 ((ji10) : Int).toNat) ++ (strOfNums y200)) ++ (t198.extract ((wrap64 ((ji10) + 1)) : Int).toNat t198.size), t198.extract 0 ((ji10) : Int).toNat, ((t198.extract 0 ((ji10) : Int).toNat) ++ (⟨#[65]⟩ : ByteArray)) ++ (t198.extract ((wrap64 ((ji10) + 1)) : Int).toNat t198.size), t198 ++ (strOfNums y203)] : List ByteArray) : List ByteArray)).bind fun y206 => (glebelaw5_MacsTells.l0 k a1 t198 y206 (y206.length : Int) 0)) else (none))) else (none)) else (none)) else (none)) else (none)) else (none)) else (none))) else (none)) else (none)) = some r := by first | (rw [hji10] at H; exact H) | (simp only [hji10] at H ⊢; exact H)
      (try rw [hji10] at A8)
      by_cases c11 : 0 ≤ (ji10)
      · rw [if_pos c11] at H
        have c11b0 := eq_true c11
        have c11b1 : decide (0 ≤ (ji10)) = true := decide_eq_true c11
        clear c11
        by_cases c12 : (ji10) ≤ (t198.size : Int)
        · rw [if_pos c12] at H
          have c12b0 := eq_true c12
          have c12b1 : decide ((ji10) ≤ (t198.size : Int)) = true := decide_eq_true c12
          clear c12
          obtain ⟨y200, hy200⟩ : ∃ y_ : List Int, y_ = (([a3] : List Int)) := ⟨_, rfl⟩
          replace H : (if (t198.extract 0 ((ji10) : Int).toNat).size + (strOfNums y200).size ≤ 9223372036854775807 then (if 0 ≤ (wrap64 ((ji10) + 1)) then (if (wrap64 ((ji10) + 1)) ≤ (t198.size : Int) then (if (t198.extract 0 ((ji10) : Int).toNat).size + (strOfNums y200).size + (t198.extract ((wrap64 ((ji10) + 1)) : Int).toNat t198.size).size ≤ 9223372036854775807 then (if (t198.extract 0 ((ji10) : Int).toNat).size + 1 ≤ 9223372036854775807 then (if (t198.extract 0 ((ji10) : Int).toNat).size + 1 + (t198.extract ((wrap64 ((ji10) + 1)) : Int).toNat t198.size).size ≤ 9223372036854775807 then ((some (([a3] : List Int) : List Int)).bind fun y203 => (if t198.size + (strOfNums y203).size ≤ 9223372036854775807 then ((some (([strOfNums l0, t198, ((t198.extract 0 ((ji10) : Int).toNat) ++ (strOfNums y200)) ++ (t198.extract ((wrap64 ((ji10) + 1)) : Int).toNat t198.size), t198.extract 0 ((ji10) : Int).toNat, ((t198.extract 0 ((ji10) : Int).toNat) ++ (⟨#[65]⟩ : ByteArray)) ++ (t198.extract ((wrap64 ((ji10) + 1)) : Int).toNat t198.size), t198 ++ (strOfNums y203)] : List ByteArray) : List ByteArray)).bind fun y206 => (glebelaw5_MacsTells.l0 k a1 t198 y206 (y206.length : Int) 0)) else (none))) else (none)) else (none)) else (none)) else (none)) else (none)) else (none)) = some r := by first | (rw [hy200]; with_reducible exact H) | (have H2_ := (Option.bind_some _ _).symm.trans H; rw [hy200]; with_reducible exact H2_) | (have H2_ := (Option.bind_some _ _).symm.trans H; with_reducible exact H2_) | with_reducible exact H | (rw [hy200]; exact H) | exact H
          have Ny200 := Aside0.mk hy200
          clear hy200
          by_cases c13 : (t198.extract 0 ((ji10) : Int).toNat).size + (strOfNums y200).size ≤ 9223372036854775807
          · rw [if_pos c13] at H
            have c13b0 := eq_true c13
            have c13b1 : decide ((t198.extract 0 ((ji10) : Int).toNat).size + (strOfNums y200).size ≤ 9223372036854775807) = true := decide_eq_true c13
            try have c13b2 : (9223372036854775807 < (t198.extract 0 ((ji10) : Int).toNat).size + (strOfNums y200).size) = False := eq_false (Nat.not_lt.2 c13)
            try have c13b3 : (9223372036854775807 < ((ji10) : Int).toNat + (strOfNums y200).size) = False := eq_false (Nat.not_lt.2 (by have h_ := c13; simp only [ByteArray.size_extract] at h_; have h0_ : (ji10) ≤ (t198.size : Int) := of_decide_eq_true (by first | (with_reducible assumption) | assumption); omega))
            obtain ⟨ji14, hji14⟩ : ∃ j_ : Int, (wrap64 ((ji10) + 1)) = j_ := ⟨_, rfl⟩
            replace H : (if 0 ≤ (ji14) then (if (ji14) ≤ (t198.size : Int) then (if (t198.extract 0 ((ji10) : Int).toNat).size + (strOfNums y200).size + (t198.extract ((ji14) : Int).toNat t198.size).size ≤ 9223372036854775807 then (if (t198.extract 0 ((ji10) : Int).toNat).size + 1 ≤ 9223372036854775807 then (if (t198.extract 0 ((ji10) : Int).toNat).size + 1 + (t198.extract ((ji14) : Int).toNat t198.size).size ≤ 9223372036854775807 then ((some (([a3] : List Int) : List Int)).bind fun y203 => (if t198.size + (strOfNums y203).size ≤ 9223372036854775807 then ((some (([strOfNums l0, t198, ((t198.extract 0 ((ji10) : Int).toNat) ++ (strOfNums y200)) ++ (t198.extract ((ji14) : Int).toNat t198.size), t198.extract 0 ((ji10) : Int).toNat, ((t198.extract 0 ((ji10) : Int).toNat) ++ (⟨#[65]⟩ : ByteArray)) ++ (t198.extract ((ji14) : Int).toNat t198.size), t198 ++ (strOfNums y203)] : List ByteArray) : List ByteArray)).bind fun y206 => (glebelaw5_MacsTells.l0 k a1 t198 y206 (y206.length : Int) 0)) else (none))) else (none)) else (none)) else (none)) else (none)) else (none)) = some r := by first | (rw [hji14] at H; exact H) | (simp only [hji14] at H ⊢; exact H)
            (try rw [hji14] at A8)
            have hji14w : (IntKind.i64.wrap ((ji10) + 1)) = ji14 := (i64_w _).trans hji14
            by_cases c15 : 0 ≤ (ji14)
            · rw [if_pos c15] at H
              have c15b0 := eq_true c15
              have c15b1 : decide (0 ≤ (ji14)) = true := decide_eq_true c15
              clear c15
              by_cases c16 : (ji14) ≤ (t198.size : Int)
              · rw [if_pos c16] at H
                have c16b0 := eq_true c16
                have c16b1 : decide ((ji14) ≤ (t198.size : Int)) = true := decide_eq_true c16
                clear c16
                by_cases c17 : (t198.extract 0 ((ji10) : Int).toNat).size + (strOfNums y200).size + (t198.extract ((ji14) : Int).toNat t198.size).size ≤ 9223372036854775807
                · rw [if_pos c17] at H
                  have c17b0 := eq_true c17
                  have c17b1 : decide ((t198.extract 0 ((ji10) : Int).toNat).size + (strOfNums y200).size + (t198.extract ((ji14) : Int).toNat t198.size).size ≤ 9223372036854775807) = true := decide_eq_true c17
                  try have c17b2 : (9223372036854775807 < (t198.extract 0 ((ji10) : Int).toNat).size + (strOfNums y200).size + (t198.extract ((ji14) : Int).toNat t198.size).size) = False := eq_false (Nat.not_lt.2 c17)
                  try have c17b3 : (9223372036854775807 < ((ji10) : Int).toNat + (strOfNums y200).size + (t198.size - ((ji14) : Int).toNat)) = False := eq_false (Nat.not_lt.2 (by have h_ := c17; simp only [ByteArray.size_extract] at h_; have h0_ : (ji10) ≤ (t198.size : Int) := of_decide_eq_true (by first | (with_reducible assumption) | assumption); omega))
                  have c18b0 := eq_true (of_decide_eq_true (by first | (with_reducible assumption) | assumption) : 0 ≤ (ji10))
                  have c19b0 := eq_true (of_decide_eq_true (by first | (with_reducible assumption) | assumption) : (ji10) ≤ (t198.size : Int))
                  have c20b0 := eq_true (of_decide_eq_true (by first | (with_reducible assumption) | assumption) : 0 ≤ (ji10))
                  have c21b0 := eq_true (of_decide_eq_true (by first | (with_reducible assumption) | assumption) : (ji10) ≤ (t198.size : Int))
                  by_cases c22 : (t198.extract 0 ((ji10) : Int).toNat).size + 1 ≤ 9223372036854775807
                  · rw [if_pos c22] at H
                    have c22b0 := eq_true c22
                    have c22b1 : decide ((t198.extract 0 ((ji10) : Int).toNat).size + 1 ≤ 9223372036854775807) = true := decide_eq_true c22
                    try have c22b2 : (9223372036854775807 < (t198.extract 0 ((ji10) : Int).toNat).size + 1) = False := eq_false (Nat.not_lt.2 c22)
                    try have c22b3 : (9223372036854775807 < ((ji10) : Int).toNat + 1) = False := eq_false (Nat.not_lt.2 (by have h_ := c22; simp only [ByteArray.size_extract] at h_; have h0_ : (ji10) ≤ (t198.size : Int) := of_decide_eq_true (by first | (with_reducible assumption) | assumption); omega))
                    have c23b0 := eq_true (of_decide_eq_true (by first | (with_reducible assumption) | assumption) : 0 ≤ (ji14))
                    have c24b0 := eq_true (of_decide_eq_true (by first | (with_reducible assumption) | assumption) : (ji14) ≤ (t198.size : Int))
                    by_cases c25 : (t198.extract 0 ((ji10) : Int).toNat).size + 1 + (t198.extract ((ji14) : Int).toNat t198.size).size ≤ 9223372036854775807
                    · rw [if_pos c25] at H
                      have c25b0 := eq_true c25
                      have c25b1 : decide ((t198.extract 0 ((ji10) : Int).toNat).size + 1 + (t198.extract ((ji14) : Int).toNat t198.size).size ≤ 9223372036854775807) = true := decide_eq_true c25
                      try have c25b2 : (9223372036854775807 < (t198.extract 0 ((ji10) : Int).toNat).size + 1 + (t198.extract ((ji14) : Int).toNat t198.size).size) = False := eq_false (Nat.not_lt.2 c25)
                      try have c25b3 : (9223372036854775807 < ((ji10) : Int).toNat + 1 + (t198.size - ((ji14) : Int).toNat)) = False := eq_false (Nat.not_lt.2 (by have h_ := c25; simp only [ByteArray.size_extract] at h_; have h0_ : (ji10) ≤ (t198.size : Int) := of_decide_eq_true (by first | (with_reducible assumption) | assumption); omega))
                      obtain ⟨y203, hy203⟩ : ∃ y_ : List Int, y_ = (([a3] : List Int)) := ⟨_, rfl⟩
                      replace H : (if t198.size + (strOfNums y203).size ≤ 9223372036854775807 then ((some (([strOfNums l0, t198, ((t198.extract 0 ((ji10) : Int).toNat) ++ (strOfNums y200)) ++ (t198.extract ((ji14) : Int).toNat t198.size), t198.extract 0 ((ji10) : Int).toNat, ((t198.extract 0 ((ji10) : Int).toNat) ++ (⟨#[65]⟩ : ByteArray)) ++ (t198.extract ((ji14) : Int).toNat t198.size), t198 ++ (strOfNums y203)] : List ByteArray) : List ByteArray)).bind fun y206 => (glebelaw5_MacsTells.l0 k a1 t198 y206 (y206.length : Int) 0)) else (none)) = some r := by first | (rw [hy203]; with_reducible exact H) | (have H2_ := (Option.bind_some _ _).symm.trans H; rw [hy203]; with_reducible exact H2_) | (have H2_ := (Option.bind_some _ _).symm.trans H; with_reducible exact H2_) | with_reducible exact H | (rw [hy203]; exact H) | exact H
                      have Ny203 := Aside0.mk hy203
                      clear hy203
                      by_cases c26 : t198.size + (strOfNums y203).size ≤ 9223372036854775807
                      · rw [if_pos c26] at H
                        have c26b0 := eq_true c26
                        have c26b1 : decide (t198.size + (strOfNums y203).size ≤ 9223372036854775807) = true := decide_eq_true c26
                        try have c26b2 : (9223372036854775807 < t198.size + (strOfNums y203).size) = False := eq_false (Nat.not_lt.2 c26)
                        obtain ⟨y206, hy206⟩ : ∃ y_ : List ByteArray, y_ = (([strOfNums l0, t198, ((t198.extract 0 ((ji10) : Int).toNat) ++ (strOfNums y200)) ++ (t198.extract ((ji14) : Int).toNat t198.size), t198.extract 0 ((ji10) : Int).toNat, ((t198.extract 0 ((ji10) : Int).toNat) ++ (⟨#[65]⟩ : ByteArray)) ++ (t198.extract ((ji14) : Int).toNat t198.size), t198 ++ (strOfNums y203)] : List ByteArray)) := ⟨_, rfl⟩
                        replace H : (glebelaw5_MacsTells.l0 k a1 t198 y206 (y206.length : Int) 0) = some r := by first | (rw [hy206]; with_reducible exact H) | (have H2_ := (Option.bind_some _ _).symm.trans H; rw [hy206]; with_reducible exact H2_) | (have H2_ := (Option.bind_some _ _).symm.trans H; with_reducible exact H2_) | with_reducible exact H | (rw [hy206]; exact H) | exact H
                        have Ny206 := Aside0.mk hy206
                        clear hy206
                        have H' := Aside0.mk H
                        clear H
                        go_enter Tryd.func9, Tryd.ntmps9
                        try go_wp2_with (first | ((with_reducible refine gate_callee (f := 30) rfl ?_); refine goesL_ (some 31) rfl rfl Tryd.func30 (by kernel_rfl) rfl #[.int .u64 (Go.bits .and .u64 a1 281474976710655)] rfl (by (try simp only [List.map_toArray, List.map_cons, List.map_nil]); first | done | rfl | (simp only [List.length_drop, List.length_take]; rfl)) ?_; (with_reducible refine (gleberef1_PrintMac.calls k (Go.bits .and .u64 a1 281474976710655) t198 t199 _ A8.out).mono ?_); rintro e w27 ⟨rfl, hb⟩; refine ⟨_, rfl, ?_⟩; have n0_ := Aside0.mk (below_step (by repeat (first | (with_reducible first | exact HB.out | apply below_alloc | apply pw_below_drewN | apply below_drew1) | exact HB.out)) hb); clear HB; have HB := n0_; clear n0_; (try clear hb); (try clear hb2); (try clear hk); (try clear hi)))
                        have n0_ := Aside0.mk (below_drew1 HB.out)
                        clear HB
                        have HB := n0_
                        clear n0_
                        refine start_ (n := 35) (S := fun w' => (Go.convert 35 9 (.slice A0 l0.length c0)).run Tryd.prog w' = .ok (.string (strOfNums l0)) w') (ds := []) #[false, false, false, false, false, false, false, false, false, false, false, false, false, false, false, false, false, false, false, false, false, false, false, false, false, false, false, false, false, false, false, false, false, false, false] (by kernel_rfl) rfl rfl ((Kd.C_string (P := Tryd.prog) (A := A0) (c := c0) Tryd.underlying35 Tryd.underlying5 Tryd.underlying9 (Kd.C_below HR0.out HB.out))) (fun hHeld => ?_); refine with_tabW glebelaw5_MacsTells.tab5 glebelaw5_MacsTells.bits5 (fun HT_ HW_ => ?_)
                        generalize w27.drew = w28 at HB hHeld ⊢
                        refine pure_ (i := 0) (N := some 39) (v := ?_) (a' := ?_) #[true, false, false, false, false, false, false, false, false, false, false, false, false, false, false, false, false, false, false, false, false, false, false, false, false, false, false, false, false, false, false, false, false, false, false] rfl rfl (any_of HT_.out (by kernel_rfl)) (fun _ _ _ h => h) (Or.inl ⟨by rfl, ?_⟩) ?_ ?_
                        rotate_left
                        · intro w'
                          go_simp
                          with_reducible rfl
                        rotate_left
                        · simp only [Act.put, List.setIfInBounds_toArray, List.set_cons_zero, List.set_cons_succ, i64_w, i32_w]
                          rfl
                        refine pure_ (i := 2) (N := some 41) (v := ?_) (a' := ?_) #[true, false, true, false, false, false, false, false, false, false, false, false, false, false, false, false, false, false, false, false, false, false, false, false, false, false, false, false, false, false, false, false, false, false, false] rfl rfl (any_of HT_.out (by kernel_rfl)) (fun _ _ _ h => h) (Or.inl ⟨by rfl, ?_⟩) ?_ ?_
                        rotate_left
                        · intro w'
                          go_simp
                          with_reducible rfl
                        rotate_left
                        · simp only [Act.put, List.setIfInBounds_toArray, List.set_cons_zero, List.set_cons_succ, i64_w, i32_w]
                          rfl
                        refine pure_ (i := 3) (N := some 42) (v := ?_) (a' := ?_) #[true, false, true, true, false, false, false, false, false, false, false, false, false, false, false, false, false, false, false, false, false, false, false, false, false, false, false, false, false, false, false, false, false, false, false] rfl rfl (any_of HT_.out (by kernel_rfl)) (fun _ _ _ h => h) (Or.inl ⟨by rfl, ?_⟩) ?_ ?_
                        rotate_left
                        · intro w'
                          go_simp
                          with_reducible rfl
                        rotate_left
                        · simp only [Act.put, List.setIfInBounds_toArray, List.set_cons_zero, List.set_cons_succ, i64_w, i32_w]
                          rfl
                        refine pure_ (i := 4) (N := some 43) (v := ?_) (a' := ?_) #[true, false, true, true, true, false, false, false, false, false, false, false, false, false, false, false, false, false, false, false, false, false, false, false, false, false, false, false, false, false, false, false, false, false, false] rfl rfl (any_of HT_.out (by kernel_rfl)) (fun _ _ _ h => h) (Or.inl ⟨by rfl, ?_⟩) ?_ ?_
                        rotate_left
                        · intro w'
                          go_simp
                          with_reducible rfl
                        rotate_left
                        · simp only [Act.put, List.setIfInBounds_toArray, List.set_cons_zero, List.set_cons_succ, i64_w, i32_w]
                          rfl
                        refine pure_ (i := 5) (N := some 44) (v := ?_) (a' := ?_) #[true, false, true, true, true, true, false, false, false, false, false, false, false, false, false, false, false, false, false, false, false, false, false, false, false, false, false, false, false, false, false, false, false, false, false] rfl rfl (any_of HT_.out (by kernel_rfl)) (fun _ _ _ h => h) (Or.inl ⟨by rfl, ?_⟩) ?_ ?_
                        rotate_left
                        · intro w'
                          go_simp
                          with_reducible rfl
                        rotate_left
                        · simp only [Act.put, List.setIfInBounds_toArray, List.set_cons_zero, List.set_cons_succ, i64_w, i32_w]
                          rfl
                        refine pure_ (i := 6) (N := some 45) (v := ?_) (a' := ?_) #[true, false, true, true, true, true, true, false, false, false, false, false, false, false, false, false, false, false, false, false, false, false, false, false, false, false, false, false, false, false, false, false, false, false, false] rfl rfl (any_of HT_.out (by kernel_rfl)) (fun _ _ _ h => h) (Or.inl ⟨by rfl, ?_⟩) ?_ ?_
                        rotate_left
                        · intro w'
                          go_simp
                          with_reducible rfl
                        rotate_left
                        · simp only [Act.put, List.setIfInBounds_toArray, List.set_cons_zero, List.set_cons_succ, i64_w, i32_w]
                          rfl
                        refine pure_ (i := 10) (N := some 49) (v := ?_) (a' := ?_) #[true, false, true, true, true, true, true, false, false, false, true, false, false, false, false, false, false, false, false, false, false, false, false, false, false, false, false, false, false, false, false, false, false, false, false] rfl rfl (any_of HT_.out (by kernel_rfl)) (fun _ _ _ h => h) (Or.inl ⟨by rfl, ?_⟩) ?_ ?_
                        rotate_left
                        · intro w'
                          go_simp
                          with_reducible rfl
                        rotate_left
                        · simp only [Act.put, List.setIfInBounds_toArray, List.set_cons_zero, List.set_cons_succ, i64_w, i32_w]
                          rfl
                        refine pure_ (i := 11) (N := some 50) (v := ?_) (a' := ?_) #[true, false, true, true, true, true, true, false, false, false, true, true, false, false, false, false, false, false, false, false, false, false, false, false, false, false, false, false, false, false, false, false, false, false, false] rfl rfl (any_of HT_.out (by kernel_rfl)) (fun _ _ _ h => h) (Or.inl ⟨by rfl, ?_⟩) ?_ ?_
                        rotate_left
                        · intro w'
                          go_simp
                          with_reducible rfl
                        rotate_left
                        · simp only [Act.put, List.setIfInBounds_toArray, List.set_cons_zero, List.set_cons_succ, i64_w, i32_w]
                          rfl
                        refine pure_ (i := 12) (N := some 51) (v := ?_) (a' := ?_) #[true, false, true, true, true, true, true, false, false, false, true, true, true, false, false, false, false, false, false, false, false, false, false, false, false, false, false, false, false, false, false, false, false, false, false] rfl rfl (any_of HT_.out (by kernel_rfl)) (fun _ _ _ h => h) (Or.inl ⟨by rfl, ?_⟩) ?_ ?_
                        rotate_left
                        · intro w'
                          go_simp
                          with_reducible rfl
                        rotate_left
                        · simp only [Act.put, List.setIfInBounds_toArray, List.set_cons_zero, List.set_cons_succ, i64_w, i32_w]
                          rfl
                        refine pure_ (i := 13) (N := some 52) (v := ?_) (a' := ?_) #[true, false, true, true, true, true, true, false, false, false, true, true, true, true, false, false, false, false, false, false, false, false, false, false, false, false, false, false, false, false, false, false, false, false, false] rfl rfl (any_of HT_.out (by kernel_rfl)) (fun _ _ _ h => h) (Or.inl ⟨by rfl, ?_⟩) ?_ ?_
                        rotate_left
                        · intro w'
                          go_simp
                          with_reducible rfl
                        rotate_left
                        · simp only [Act.put, List.setIfInBounds_toArray, List.set_cons_zero, List.set_cons_succ, i64_w, i32_w]
                          rfl
                        refine pure_ (i := 15) (N := some 54) (v := ?_) (a' := ?_) #[true, false, true, true, true, true, true, false, false, false, true, true, true, true, false, true, false, false, false, false, false, false, false, false, false, false, false, false, false, false, false, false, false, false, false] rfl rfl (any_of HT_.out (by kernel_rfl)) (fun _ _ _ h => h) (Or.inl ⟨by rfl, ?_⟩) ?_ ?_
                        rotate_left
                        · intro w'
                          go_simp
                          with_reducible rfl
                        rotate_left
                        · simp only [Act.put, List.setIfInBounds_toArray, List.set_cons_zero, List.set_cons_succ, i64_w, i32_w]
                          rfl
                        refine pure_ (i := 16) (N := some 55) (v := ?_) (a' := ?_) #[true, false, true, true, true, true, true, false, false, false, true, true, true, true, false, true, true, false, false, false, false, false, false, false, false, false, false, false, false, false, false, false, false, false, false] rfl rfl (any_of HT_.out (by kernel_rfl)) (fun _ _ _ h => h) (Or.inl ⟨by rfl, ?_⟩) ?_ ?_
                        rotate_left
                        · intro w'
                          go_simp
                          with_reducible rfl
                        rotate_left
                        · simp only [Act.put, List.setIfInBounds_toArray, List.set_cons_zero, List.set_cons_succ, i64_w, i32_w]
                          rfl
                        refine pure_ (i := 17) (N := some 56) (v := ?_) (a' := ?_) #[true, false, true, true, true, true, true, false, false, false, true, true, true, true, false, true, true, true, false, false, false, false, false, false, false, false, false, false, false, false, false, false, false, false, false] rfl rfl (any_of HT_.out (by kernel_rfl)) (fun _ _ _ h => h) (Or.inl ⟨by rfl, ?_⟩) ?_ ?_
                        rotate_left
                        · intro w'
                          go_simp
                          with_reducible rfl
                        rotate_left
                        · simp only [Act.put, List.setIfInBounds_toArray, List.set_cons_zero, List.set_cons_succ, i64_w, i32_w]
                          rfl
                        refine pure_ (i := 18) (N := some 57) (v := ?_) (a' := ?_) #[true, false, true, true, true, true, true, false, false, false, true, true, true, true, false, true, true, true, true, false, false, false, false, false, false, false, false, false, false, false, false, false, false, false, false] rfl rfl (any_of HT_.out (by kernel_rfl)) (fun _ _ _ h => h) (Or.inl ⟨by rfl, ?_⟩) ?_ ?_
                        rotate_left
                        · intro w'
                          go_simp
                          with_reducible rfl
                        rotate_left
                        · simp only [Act.put, List.setIfInBounds_toArray, List.set_cons_zero, List.set_cons_succ, i64_w, i32_w]
                          rfl
                        refine pure_ (i := 19) (N := some 58) (v := ?_) (a' := ?_) #[true, false, true, true, true, true, true, false, false, false, true, true, true, true, false, true, true, true, true, true, false, false, false, false, false, false, false, false, false, false, false, false, false, false, false] rfl rfl (any_of HT_.out (by kernel_rfl)) (fun _ _ _ h => h) (Or.inl ⟨by rfl, ?_⟩) ?_ ?_
                        rotate_left
                        · intro w'
                          go_simp
                          with_reducible rfl
                        rotate_left
                        · simp only [Act.put, List.setIfInBounds_toArray, List.set_cons_zero, List.set_cons_succ, i64_w, i32_w]
                          rfl
                        refine pure_ (i := 20) (N := some 59) (v := ?_) (a' := ?_) #[true, false, true, true, true, true, true, false, false, false, true, true, true, true, false, true, true, true, true, true, true, false, false, false, false, false, false, false, false, false, false, false, false, false, false] rfl rfl (any_of HT_.out (by kernel_rfl)) (fun _ _ _ h => h) (Or.inl ⟨by rfl, ?_⟩) ?_ ?_
                        rotate_left
                        · intro w'
                          go_simp
                          with_reducible rfl
                        rotate_left
                        · simp only [Act.put, List.setIfInBounds_toArray, List.set_cons_zero, List.set_cons_succ, i64_w, i32_w]
                          rfl
                        refine pure_ (i := 21) (N := some 60) (v := ?_) (a' := ?_) #[true, false, true, true, true, true, true, false, false, false, true, true, true, true, false, true, true, true, true, true, true, true, false, false, false, false, false, false, false, false, false, false, false, false, false] rfl rfl (any_of HT_.out (by kernel_rfl)) (fun _ _ _ h => h) (Or.inl ⟨by rfl, ?_⟩) ?_ ?_
                        rotate_left
                        · intro w'
                          go_simp
                          with_reducible rfl
                        rotate_left
                        · simp only [Act.put, List.setIfInBounds_toArray, List.set_cons_zero, List.set_cons_succ, i64_w, i32_w]
                          rfl
                        refine pure_ (i := 22) (N := some 61) (v := ?_) (a' := ?_) #[true, false, true, true, true, true, true, false, false, false, true, true, true, true, false, true, true, true, true, true, true, true, true, false, false, false, false, false, false, false, false, false, false, false, false] rfl rfl (any_of HT_.out (by kernel_rfl)) (fun _ _ _ h => h) (Or.inl ⟨by rfl, ?_⟩) ?_ ?_
                        rotate_left
                        · intro w'
                          go_simp
                          with_reducible rfl
                        rotate_left
                        · simp only [Act.put, List.setIfInBounds_toArray, List.set_cons_zero, List.set_cons_succ, i64_w, i32_w]
                          rfl
                        refine pure_ (i := 23) (N := some 62) (v := ?_) (a' := ?_) #[true, false, true, true, true, true, true, false, false, false, true, true, true, true, false, true, true, true, true, true, true, true, true, true, false, false, false, false, false, false, false, false, false, false, false] rfl rfl (any_of HT_.out (by kernel_rfl)) (fun _ _ _ h => h) (Or.inl ⟨by rfl, ?_⟩) ?_ ?_
                        rotate_left
                        · intro w'
                          go_simp
                          with_reducible rfl
                        rotate_left
                        · simp only [Act.put, List.setIfInBounds_toArray, List.set_cons_zero, List.set_cons_succ, i64_w, i32_w]
                          rfl
                        refine pure_ (i := 24) (N := some 63) (v := ?_) (a' := ?_) #[true, false, true, true, true, true, true, false, false, false, true, true, true, true, false, true, true, true, true, true, true, true, true, true, true, false, false, false, false, false, false, false, false, false, false] rfl rfl (any_of HT_.out (by kernel_rfl)) (fun _ _ _ h => h) (Or.inl ⟨by rfl, ?_⟩) ?_ ?_
                        rotate_left
                        · intro w'
                          go_simp
                          with_reducible rfl
                        rotate_left
                        · simp only [Act.put, List.setIfInBounds_toArray, List.set_cons_zero, List.set_cons_succ, i64_w, i32_w]
                          rfl
                        refine pure_ (i := 25) (N := some 64) (v := ?_) (a' := ?_) #[true, false, true, true, true, true, true, false, false, false, true, true, true, true, false, true, true, true, true, true, true, true, true, true, true, true, false, false, false, false, false, false, false, false, false] rfl rfl (any_of HT_.out (by kernel_rfl)) (fun _ _ _ h => h) (Or.inl ⟨by rfl, ?_⟩) ?_ ?_
                        rotate_left
                        · intro w'
                          go_simp
                          with_reducible rfl
                        rotate_left
                        · simp only [Act.put, List.setIfInBounds_toArray, List.set_cons_zero, List.set_cons_succ, i64_w, i32_w]
                          rfl
                        refine pure_ (i := 26) (N := some 65) (v := ?_) (a' := ?_) #[true, false, true, true, true, true, true, false, false, false, true, true, true, true, false, true, true, true, true, true, true, true, true, true, true, true, true, false, false, false, false, false, false, false, false] rfl rfl (any_of HT_.out (by kernel_rfl)) (fun _ _ _ h => h) (Or.inl ⟨by rfl, ?_⟩) ?_ ?_
                        rotate_left
                        · intro w'
                          go_simp
                          with_reducible rfl
                        rotate_left
                        · simp only [Act.put, List.setIfInBounds_toArray, List.set_cons_zero, List.set_cons_succ, i64_w, i32_w]
                          rfl
                        refine pure_ (i := 27) (N := some 66) (v := ?_) (a' := ?_) #[true, false, true, true, true, true, true, false, false, false, true, true, true, true, false, true, true, true, true, true, true, true, true, true, true, true, true, true, false, false, false, false, false, false, false] rfl rfl (any_of HT_.out (by kernel_rfl)) (fun _ _ _ h => h) (Or.inl ⟨by rfl, ?_⟩) ?_ ?_
                        rotate_left
                        · intro w'
                          go_simp
                          with_reducible rfl
                        rotate_left
                        · simp only [Act.put, List.setIfInBounds_toArray, List.set_cons_zero, List.set_cons_succ, i64_w, i32_w]
                          rfl
                        refine pure_ (i := 28) (N := some 67) (v := ?_) (a' := ?_) #[true, false, true, true, true, true, true, false, false, false, true, true, true, true, false, true, true, true, true, true, true, true, true, true, true, true, true, true, true, false, false, false, false, false, false] rfl rfl (any_of HT_.out (by kernel_rfl)) (fun _ _ _ h => h) (Or.inl ⟨by rfl, ?_⟩) ?_ ?_
                        rotate_left
                        · intro w'
                          go_simp
                          with_reducible rfl
                        rotate_left
                        · simp only [Act.put, List.setIfInBounds_toArray, List.set_cons_zero, List.set_cons_succ, i64_w, i32_w]
                          rfl
                        refine pure_ (i := 34) (N := some 73) (v := ?_) (a' := ?_) #[true, false, true, true, true, true, true, false, false, false, true, true, true, true, false, true, true, true, true, true, true, true, true, true, true, true, true, true, true, false, false, false, false, false, true] rfl rfl (any_of HT_.out (by kernel_rfl)) (fun _ _ _ h => h) (Or.inl ⟨by rfl, ?_⟩) ?_ ?_
                        rotate_left
                        · intro w'
                          go_simp
                          with_reducible rfl
                        rotate_left
                        · simp only [Act.put, List.setIfInBounds_toArray, List.set_cons_zero, List.set_cons_succ, i64_w, i32_w]
                          rfl
                        refine take_ (i := 1) (N := some 40) (v := ?_) (a' := ?_) #[true, true, true, true, true, true, true, false, false, false, true, true, true, true, false, true, true, true, true, true, true, true, true, true, true, true, true, true, true, false, false, false, false, false, true] rfl rfl (take_ofW HT_.out HW_.out (by kernel_rfl)) (fun _ _ _ h => h) (Or.inl ⟨by rfl, ?_⟩) hHeld ?_ ?_
                        rotate_left
                        · intro w' s0
                          go_simp
                          with_reducible rfl
                        rotate_left
                        · simp only [Act.put, List.setIfInBounds_toArray, List.set_cons_zero, List.set_cons_succ, i64_w, i32_w]
                          rfl
                        refine join_ (σ := Value × Value) 2 #[true, true, true, true, true, true, true, true, true, true, true, true, true, true, true, true, true, true, true, true, true, true, true, true, true, true, true, true, true, true, true, true, false, false, true] (fun s_ => [(46, s_.1), (47, .string (strOfNums y200)), (68, s_.2), (69, .string (strOfNums y203)), (48, .string ((t198.extract 0 ((ji10) : Int).toNat) ++ (strOfNums y200))), (53, .string (((t198.extract 0 ((ji10) : Int).toNat) ++ (strOfNums y200)) ++ (t198.extract ((ji14) : Int).toNat t198.size))), (70, .string (t198 ++ (strOfNums y203)))]) (fun s_ w' => ((Go.convert 35 9 (.slice A0 l0.length c0)).run Tryd.prog w' = .ok (.string (strOfNums l0)) w') ∧ (Kd.R (Kd.int .u8) 5 w' w.heap.size (fun k_ => some k_ ≠ (s_.2 : Value).ownBlock) s_.1 y200) ∧ (Kd.R (Kd.int .u8) 5 w' w.heap.size (fun k_ => some k_ ≠ (s_.1 : Value).ownBlock) s_.2 y203) ∧ (Below w.heap.size w w')) ?_ ?_
                        rotate_left
                        · intro hJ7_8_29_30
                          refine join_ (σ := Value × Value) 4 #[true, true, true, true, true, true, true, true, true, true, true, true, true, true, true, true, true, true, true, true, true, true, true, true, true, true, true, true, true, true, false, false, false, false, true] (fun s_ => [(46, s_.1), (47, .string (strOfNums y200)), (68, s_.2), (48, .string ((t198.extract 0 ((ji10) : Int).toNat) ++ (strOfNums y200))), (53, .string (((t198.extract 0 ((ji10) : Int).toNat) ++ (strOfNums y200)) ++ (t198.extract ((ji14) : Int).toNat t198.size)))]) (fun s_ w' => ((Go.convert 35 9 (.slice A0 l0.length c0)).run Tryd.prog w' = .ok (.string (strOfNums l0)) w') ∧ (Kd.R (Kd.int .u8) 5 w' w.heap.size (fun k_ => some k_ ≠ (s_.2 : Value).ownBlock) s_.1 y200) ∧ (Kd.R (Kd.int .u8) 5 w' w.heap.size (fun k_ => some k_ ≠ (s_.1 : Value).ownBlock) s_.2 y203) ∧ (Below w.heap.size w w')) ?_ ?_
                          rotate_left
                          · intro hJ7_8_29
                            refine join_ (σ := Value × Value) 5 #[true, true, true, true, true, true, true, true, false, false, true, true, true, true, false, true, true, true, true, true, true, true, true, true, true, true, true, true, true, true, true, true, false, false, true] (fun s_ => [(46, s_.1), (68, s_.2), (69, .string (strOfNums y203)), (70, .string (t198 ++ (strOfNums y203)))]) (fun s_ w' => ((Go.convert 35 9 (.slice A0 l0.length c0)).run Tryd.prog w' = .ok (.string (strOfNums l0)) w') ∧ (Kd.R (Kd.int .u8) 5 w' w.heap.size (fun k_ => some k_ ≠ (s_.2 : Value).ownBlock) s_.1 y200) ∧ (Kd.R (Kd.int .u8) 5 w' w.heap.size (fun k_ => some k_ ≠ (s_.1 : Value).ownBlock) s_.2 y203) ∧ (Below w.heap.size w w')) ?_ ?_
                            rotate_left
                            · intro hJ7_29_30
                              refine join_ (σ := Value) 5 #[true, true, true, true, true, true, true, true, true, true, true, true, true, true, true, true, true, true, true, true, true, true, true, true, true, true, true, true, true, false, false, false, false, false, true] (fun s_ => [(46, s_), (47, .string (strOfNums y200)), (48, .string ((t198.extract 0 ((ji10) : Int).toNat) ++ (strOfNums y200))), (53, .string (((t198.extract 0 ((ji10) : Int).toNat) ++ (strOfNums y200)) ++ (t198.extract ((ji14) : Int).toNat t198.size)))]) (fun s_ w' => ((Go.convert 35 9 (.slice A0 l0.length c0)).run Tryd.prog w' = .ok (.string (strOfNums l0)) w') ∧ (Kd.R (Kd.int .u8) 5 w' w.heap.size (fun _ => True) s_ y200) ∧ (Below w.heap.size w w')) ?_ ?_
                              rotate_left
                              · intro hJ7_8
                                refine join_ (σ := Value × Value) 7 #[true, true, true, true, true, true, true, true, false, false, true, true, true, true, false, true, true, true, true, true, true, true, true, true, true, true, true, true, true, true, false, false, false, false, true] (fun s_ => [(46, s_.1), (68, s_.2)]) (fun s_ w' => ((Go.convert 35 9 (.slice A0 l0.length c0)).run Tryd.prog w' = .ok (.string (strOfNums l0)) w') ∧ (Kd.R (Kd.int .u8) 5 w' w.heap.size (fun k_ => some k_ ≠ (s_.2 : Value).ownBlock) s_.1 y200) ∧ (Kd.R (Kd.int .u8) 5 w' w.heap.size (fun k_ => some k_ ≠ (s_.1 : Value).ownBlock) s_.2 y203) ∧ (Below w.heap.size w w')) ?_ ?_
                                rotate_left
                                · intro hJ7_29
                                  refine join_ (σ := Value) 6 #[true, true, true, true, true, true, true, false, false, false, true, true, true, true, false, true, true, true, true, true, true, true, true, true, true, true, true, true, true, true, true, true, false, false, true] (fun s_ => [(68, s_), (69, .string (strOfNums y203)), (70, .string (t198 ++ (strOfNums y203)))]) (fun s_ w' => ((Go.convert 35 9 (.slice A0 l0.length c0)).run Tryd.prog w' = .ok (.string (strOfNums l0)) w') ∧ (Kd.R (Kd.int .u8) 5 w' w.heap.size (fun _ => True) s_ y203) ∧ (Below w.heap.size w w')) ?_ ?_
                                  rotate_left
                                  · intro hJ29_30
                                    refine join_ (σ := Value) 8 #[true, true, true, true, true, true, true, true, false, false, true, true, true, true, false, true, true, true, true, true, true, true, true, true, true, true, true, true, true, false, false, false, false, false, true] (fun s_ => [(46, s_)]) (fun s_ w' => ((Go.convert 35 9 (.slice A0 l0.length c0)).run Tryd.prog w' = .ok (.string (strOfNums l0)) w') ∧ (Kd.R (Kd.int .u8) 5 w' w.heap.size (fun _ => True) s_ y200) ∧ (Below w.heap.size w w')) ?_ ?_
                                    rotate_left
                                    · intro hJ7
                                      refine join_ (σ := Value) 8 #[true, true, true, true, true, true, true, false, false, false, true, true, true, true, false, true, true, true, true, true, true, true, true, true, true, true, true, true, true, true, false, false, false, false, true] (fun s_ => [(68, s_)]) (fun s_ w' => ((Go.convert 35 9 (.slice A0 l0.length c0)).run Tryd.prog w' = .ok (.string (strOfNums l0)) w') ∧ (Kd.R (Kd.int .u8) 5 w' w.heap.size (fun _ => True) s_ y203) ∧ (Below w.heap.size w w')) ?_ ?_
                                      rotate_left
                                      · intro hJ29
                                        refine two_ (i := 7) (j := 29) (Ni := some 46) (Nj := some 68) #[true, true, true, true, true, true, true, true, false, false, true, true, true, true, false, true, true, true, true, true, true, true, true, true, true, true, true, true, true, false, false, false, false, false, true] #[true, true, true, true, true, true, true, false, false, false, true, true, true, true, false, true, true, true, true, true, true, true, true, true, true, true, true, true, true, true, false, false, false, false, true] rfl rfl rfl rfl (two_of HT_.out (by kernel_rfl)) (by decide) (by decide) (fun K hK => ?_) (fun K hK => ?_)
                                        · skip
                                          refine Kd.R_lit_step (Kd.int .u8) _ 5 ?hg (N := 46) ?hd (xs := ([a3] : List Int)) (inner := [.int .u8 a3]) (ok := fun _ => True) (okp := fun _ => True) ?hr ?hp (fun _ hk => hk) trivial (Below.refl _ _) (Nat.le_refl _) (by simp) ?_; (case hd => rfl); (case hg => rfl); (case hr => first | (go_simp; done) | (go_simp; rfl)); (case hp => exact (Reps.one (show Kd.M (Kd.int .u8) _ _ _ a3 [.int .u8 a3] from rfl) (Reps.none _ _)))
                                          intro v201 w29 ho30 hb hg_ hnew_
                                          clear hg_ hnew_
                                          (first | rw [← Ny200.out] at ho30 | (simp only [Int.reduceToNat] at ho30; rw [← Ny200.out] at ho30))
                                          have n0_ := Aside0.mk (Kd.R_lower ho30 (below_size (by repeat (first | (with_reducible first | exact HB.out | apply below_alloc | apply pw_below_drewN | apply below_drew1) | exact HB.out))))
                                          have n1_ := Aside0.mk (below_step (by repeat (first | (with_reducible first | exact HB.out | apply below_alloc | apply pw_below_drewN | apply below_drew1) | exact HB.out)) hb)
                                          clear HB
                                          have HO202 := n0_
                                          have HB := n1_
                                          clear n0_ n1_
                                          clear hb ho30
                                          refine hK.out _ _ ((Kd.C_string (P := Tryd.prog) (A := A0) (c := c0) Tryd.underlying35 Tryd.underlying5 Tryd.underlying9 (Kd.C_below HR0.out HB.out))) (fun hHeld => ?_)
                                          clear hK K
                                          refine norm_ (a' := ?_) ?_ ?_
                                          rotate_left
                                          · show Act.put _ (some 46) _ = _
                                            simp only [Act.put, List.setIfInBounds_toArray, List.set_cons_zero, List.set_cons_succ, i64_w, i32_w]
                                            rfl
                                          exact norm_ (by first | (simp only [putAll, Act.put, List.setIfInBounds_toArray, List.set_cons_zero, List.set_cons_succ]; done) | (simp only [putAll, Act.put, List.setIfInBounds_toArray, List.set_cons_zero, List.set_cons_succ]; rfl)) (hJ7 (v201) _ ⟨hHeld, (by (with_reducible repeat (first | apply Kd.R_alloc | apply Kd.R_drewN | apply Kd.R_drew)); exact HO202.out), (by repeat (first | (with_reducible first | exact HB.out | apply below_alloc | apply pw_below_drewN | apply below_drew1) | exact HB.out))⟩)
                                        · skip
                                          refine Kd.R_lit_step (Kd.int .u8) _ 5 ?hg (N := 68) ?hd (xs := ([a3] : List Int)) (inner := [.int .u8 a3]) (ok := fun _ => True) (okp := fun _ => True) ?hr ?hp (fun _ hk => hk) trivial (Below.refl _ _) (Nat.le_refl _) (by simp) ?_; (case hd => rfl); (case hg => rfl); (case hr => first | (go_simp; done) | (go_simp; rfl)); (case hp => exact (Reps.one (show Kd.M (Kd.int .u8) _ _ _ a3 [.int .u8 a3] from rfl) (Reps.none _ _)))
                                          intro v204 w29 ho30 hb hg_ hnew_
                                          clear hg_ hnew_
                                          (first | rw [← Ny203.out] at ho30 | (simp only [Int.reduceToNat] at ho30; rw [← Ny203.out] at ho30))
                                          have n0_ := Aside0.mk (Kd.R_lower ho30 (below_size (by repeat (first | (with_reducible first | exact HB.out | apply below_alloc | apply pw_below_drewN | apply below_drew1) | exact HB.out))))
                                          have n1_ := Aside0.mk (below_step (by repeat (first | (with_reducible first | exact HB.out | apply below_alloc | apply pw_below_drewN | apply below_drew1) | exact HB.out)) hb)
                                          clear HB
                                          have HO205 := n0_
                                          have HB := n1_
                                          clear n0_ n1_
                                          clear hb ho30
                                          refine hK.out _ _ ((Kd.C_string (P := Tryd.prog) (A := A0) (c := c0) Tryd.underlying35 Tryd.underlying5 Tryd.underlying9 (Kd.C_below HR0.out HB.out))) (fun hHeld => ?_)
                                          clear hK K
                                          refine norm_ (a' := ?_) ?_ ?_
                                          rotate_left
                                          · show Act.put _ (some 68) _ = _
                                            simp only [Act.put, List.setIfInBounds_toArray, List.set_cons_zero, List.set_cons_succ, i64_w, i32_w]
                                            rfl
                                          exact norm_ (by first | (simp only [putAll, Act.put, List.setIfInBounds_toArray, List.set_cons_zero, List.set_cons_succ]; done) | (simp only [putAll, Act.put, List.setIfInBounds_toArray, List.set_cons_zero, List.set_cons_succ]; rfl)) (hJ29 (v204) _ ⟨hHeld, (by (with_reducible repeat (first | apply Kd.R_alloc | apply Kd.R_drewN | apply Kd.R_drew)); exact HO205.out), (by repeat (first | (with_reducible first | exact HB.out | apply below_alloc | apply pw_below_drewN | apply below_drew1) | exact HB.out))⟩)
                                      · skip
                                        rintro v204 w31 ⟨hS_, h0_, h1_⟩
                                        have n0_ : Aside0 (Kd.R (Kd.int .u8) 5 w31 w.heap.size (fun _ => True) v204 y203) := ⟨h0_⟩
                                        have n1_ : Aside0 (Below w.heap.size w w31) := ⟨h1_⟩
                                        clear HB
                                        clear h0_ h1_
                                        have HO205 := n0_
                                        have HB := n1_
                                        clear n0_ n1_
                                        have hHeld : (Go.convert 35 9 (.slice A0 l0.length c0)).run Tryd.prog w31 = .ok (.string (strOfNums l0)) w31 := hS_
                                        refine norm_ (a' := ?_) ?_ ?_
                                        rotate_left
                                        · simp only [putAll, Act.put, List.setIfInBounds_toArray, List.set_cons_zero, List.set_cons_succ]
                                          rfl
                                        refine two_ (i := 7) (j := 30) (Ni := some 46) (Nj := some 69) #[true, true, true, true, true, true, true, true, false, false, true, true, true, true, false, true, true, true, true, true, true, true, true, true, true, true, true, true, true, true, false, false, false, false, true] #[true, true, true, true, true, true, true, false, false, false, true, true, true, true, false, true, true, true, true, true, true, true, true, true, true, true, true, true, true, true, true, false, false, false, true] rfl rfl rfl rfl (two_of HT_.out (by kernel_rfl)) (by decide) (by decide) (fun K hK => ?_) (fun K hK => ?_)
                                        · skip
                                          refine Kd.R_lit_step (Kd.int .u8) _ 5 ?hg (N := 46) ?hd (xs := ([a3] : List Int)) (inner := [.int .u8 a3]) (ok := fun _ => True) (okp := fun _ => True) ?hr ?hp (fun _ hk => hk) trivial (Below.refl _ _) (Nat.le_refl _) (by simp) ?_; (case hd => rfl); (case hg => rfl); (case hr => first | (go_simp; done) | (go_simp; rfl)); (case hp => exact (Reps.one (show Kd.M (Kd.int .u8) _ _ _ a3 [.int .u8 a3] from rfl) (Reps.none _ _)))
                                          intro v201 w32 ho33 hb hg_ hnew_
                                          clear hg_ hnew_
                                          (first | rw [← Ny200.out] at ho33 | (simp only [Int.reduceToNat] at ho33; rw [← Ny200.out] at ho33))
                                          have n0_ := Aside0.mk (Kd.R_elder' (by (with_reducible repeat (first | apply Kd.R_alloc | apply Kd.R_drewN | apply Kd.R_drew)); exact HO205.out) (Kd.R_base ho33) hb)
                                          have n1_ := Aside0.mk (Kd.R_lower (Kd.R_new' ho33 (Kd.R_lt (by (with_reducible repeat (first | apply Kd.R_alloc | apply Kd.R_drewN | apply Kd.R_drew)); exact HO205.out))) (below_size (by repeat (first | (with_reducible first | exact HB.out | apply below_alloc | apply pw_below_drewN | apply below_drew1) | exact HB.out))))
                                          have n2_ := Aside0.mk (below_step (by repeat (first | (with_reducible first | exact HB.out | apply below_alloc | apply pw_below_drewN | apply below_drew1) | exact HB.out)) hb)
                                          clear HO205
                                          clear HB
                                          have HO205 := n0_
                                          have HO202 := n1_
                                          have HB := n2_
                                          clear n0_ n1_ n2_
                                          clear hb ho33
                                          refine hK.out _ _ ((Kd.C_string (P := Tryd.prog) (A := A0) (c := c0) Tryd.underlying35 Tryd.underlying5 Tryd.underlying9 (Kd.C_below HR0.out HB.out))) (fun hHeld => ?_)
                                          clear hK K
                                          refine norm_ (a' := ?_) ?_ ?_
                                          rotate_left
                                          · show Act.put _ (some 46) _ = _
                                            simp only [Act.put, List.setIfInBounds_toArray, List.set_cons_zero, List.set_cons_succ, i64_w, i32_w]
                                            rfl
                                          exact norm_ (by first | (simp only [putAll, Act.put, List.setIfInBounds_toArray, List.set_cons_zero, List.set_cons_succ]; done) | (simp only [putAll, Act.put, List.setIfInBounds_toArray, List.set_cons_zero, List.set_cons_succ]; rfl)) (hJ7_29 (v201, v204) _ ⟨hHeld, (by (with_reducible repeat (first | apply Kd.R_alloc | apply Kd.R_drewN | apply Kd.R_drew)); exact Kd.R_mono HO202.out (fun _ hk => hk.2)), (by (with_reducible repeat (first | apply Kd.R_alloc | apply Kd.R_drewN | apply Kd.R_drew)); exact Kd.R_mono HO205.out (fun _ hk => hk.2)), (by repeat (first | (with_reducible first | exact HB.out | apply below_alloc | apply pw_below_drewN | apply below_drew1) | exact HB.out))⟩)
                                        · skip
                                          have hcv32 := own_string (P := Tryd.prog) Tryd.underlying35 Tryd.underlying5 Tryd.underlying9 (Kd.own_of_R HO205.out)
                                          refine value_ (w1 := ?_) (v := ?_) (by rfl) rfl ?_ ?_
                                          rotate_left 2
                                          · go_simp
                                            constructor
                                            · rfl
                                            · rfl
                                          clear hcv32
                                          refine hK.out _ _ ((Kd.C_string (P := Tryd.prog) (A := A0) (c := c0) Tryd.underlying35 Tryd.underlying5 Tryd.underlying9 (Kd.C_below HR0.out HB.out))) (fun hHeld => ?_)
                                          clear hK K
                                          refine norm_ (a' := ?_) ?_ ?_
                                          rotate_left
                                          · show Act.put _ (some 69) _ = _
                                            simp only [Act.put, List.setIfInBounds_toArray, List.set_cons_zero, List.set_cons_succ, i64_w, i32_w]
                                            rfl
                                          refine pure_ (i := 31) (N := some 70) (v := ?_) (a' := ?_) #[true, true, true, true, true, true, true, false, false, false, true, true, true, true, false, true, true, true, true, true, true, true, true, true, true, true, true, true, true, true, true, true, false, false, true] rfl rfl (any_of HT_.out (by kernel_rfl)) (fun _ _ _ h => h) (Or.inl ⟨by rfl, ?_⟩) ?_ ?_
                                          rotate_left
                                          · intro w'
                                            go_simp
                                            with_reducible rfl
                                          rotate_left
                                          · simp only [Act.put, List.setIfInBounds_toArray, List.set_cons_zero, List.set_cons_succ, i64_w, i32_w]
                                            rfl
                                          exact norm_ (by first | (simp only [putAll, Act.put, List.setIfInBounds_toArray, List.set_cons_zero, List.set_cons_succ]; done) | (simp only [putAll, Act.put, List.setIfInBounds_toArray, List.set_cons_zero, List.set_cons_succ]; rfl)) (hJ29_30 (v204) _ ⟨hHeld, (by (with_reducible repeat (first | apply Kd.R_alloc | apply Kd.R_drewN | apply Kd.R_drew)); exact HO205.out), (by repeat (first | (with_reducible first | exact HB.out | apply below_alloc | apply pw_below_drewN | apply below_drew1) | exact HB.out))⟩)
                                    · skip
                                      rintro v201 w31 ⟨hS_, h0_, h1_⟩
                                      have n0_ : Aside0 (Kd.R (Kd.int .u8) 5 w31 w.heap.size (fun _ => True) v201 y200) := ⟨h0_⟩
                                      have n1_ : Aside0 (Below w.heap.size w w31) := ⟨h1_⟩
                                      clear HB
                                      clear h0_ h1_
                                      have HO202 := n0_
                                      have HB := n1_
                                      clear n0_ n1_
                                      have hHeld : (Go.convert 35 9 (.slice A0 l0.length c0)).run Tryd.prog w31 = .ok (.string (strOfNums l0)) w31 := hS_
                                      refine norm_ (a' := ?_) ?_ ?_
                                      rotate_left
                                      · simp only [putAll, Act.put, List.setIfInBounds_toArray, List.set_cons_zero, List.set_cons_succ]
                                        rfl
                                      refine two_ (i := 8) (j := 29) (Ni := some 47) (Nj := some 68) #[true, true, true, true, true, true, true, true, true, false, true, true, true, true, false, true, true, true, true, true, true, true, true, true, true, true, true, true, true, false, false, false, false, false, true] #[true, true, true, true, true, true, true, true, false, false, true, true, true, true, false, true, true, true, true, true, true, true, true, true, true, true, true, true, true, true, false, false, false, false, true] rfl rfl rfl rfl (two_of HT_.out (by kernel_rfl)) (by decide) (by decide) (fun K hK => ?_) (fun K hK => ?_)
                                      · skip
                                        have hcv32 := own_string (P := Tryd.prog) Tryd.underlying35 Tryd.underlying5 Tryd.underlying9 (Kd.own_of_R HO202.out)
                                        refine value_ (w1 := ?_) (v := ?_) (by rfl) rfl ?_ ?_
                                        rotate_left 2
                                        · go_simp
                                          constructor
                                          · rfl
                                          · rfl
                                        clear hcv32
                                        refine hK.out _ _ ((Kd.C_string (P := Tryd.prog) (A := A0) (c := c0) Tryd.underlying35 Tryd.underlying5 Tryd.underlying9 (Kd.C_below HR0.out HB.out))) (fun hHeld => ?_)
                                        clear hK K
                                        refine norm_ (a' := ?_) ?_ ?_
                                        rotate_left
                                        · show Act.put _ (some 47) _ = _
                                          simp only [Act.put, List.setIfInBounds_toArray, List.set_cons_zero, List.set_cons_succ, i64_w, i32_w]
                                          rfl
                                        refine pure_ (i := 9) (N := some 48) (v := ?_) (a' := ?_) #[true, true, true, true, true, true, true, true, true, true, true, true, true, true, false, true, true, true, true, true, true, true, true, true, true, true, true, true, true, false, false, false, false, false, true] rfl rfl (any_of HT_.out (by kernel_rfl)) (fun _ _ _ h => h) (Or.inl ⟨by rfl, ?_⟩) ?_ ?_
                                        rotate_left
                                        · intro w'
                                          go_simp
                                          with_reducible rfl
                                        rotate_left
                                        · simp only [Act.put, List.setIfInBounds_toArray, List.set_cons_zero, List.set_cons_succ, i64_w, i32_w]
                                          rfl
                                        refine pure_ (i := 14) (N := some 53) (v := ?_) (a' := ?_) #[true, true, true, true, true, true, true, true, true, true, true, true, true, true, true, true, true, true, true, true, true, true, true, true, true, true, true, true, true, false, false, false, false, false, true] rfl rfl (any_of HT_.out (by kernel_rfl)) (fun _ _ _ h => h) (Or.inl ⟨by rfl, ?_⟩) ?_ ?_
                                        rotate_left
                                        · intro w'
                                          go_simp
                                          with_reducible rfl
                                        rotate_left
                                        · simp only [Act.put, List.setIfInBounds_toArray, List.set_cons_zero, List.set_cons_succ, i64_w, i32_w]
                                          rfl
                                        exact norm_ (by first | (simp only [putAll, Act.put, List.setIfInBounds_toArray, List.set_cons_zero, List.set_cons_succ]; done) | (simp only [putAll, Act.put, List.setIfInBounds_toArray, List.set_cons_zero, List.set_cons_succ]; rfl)) (hJ7_8 (v201) _ ⟨hHeld, (by (with_reducible repeat (first | apply Kd.R_alloc | apply Kd.R_drewN | apply Kd.R_drew)); exact HO202.out), (by repeat (first | (with_reducible first | exact HB.out | apply below_alloc | apply pw_below_drewN | apply below_drew1) | exact HB.out))⟩)
                                      · skip
                                        refine Kd.R_lit_step (Kd.int .u8) _ 5 ?hg (N := 68) ?hd (xs := ([a3] : List Int)) (inner := [.int .u8 a3]) (ok := fun _ => True) (okp := fun _ => True) ?hr ?hp (fun _ hk => hk) trivial (Below.refl _ _) (Nat.le_refl _) (by simp) ?_; (case hd => rfl); (case hg => rfl); (case hr => first | (go_simp; done) | (go_simp; rfl)); (case hp => exact (Reps.one (show Kd.M (Kd.int .u8) _ _ _ a3 [.int .u8 a3] from rfl) (Reps.none _ _)))
                                        intro v204 w32 ho33 hb hg_ hnew_
                                        clear hg_ hnew_
                                        (first | rw [← Ny203.out] at ho33 | (simp only [Int.reduceToNat] at ho33; rw [← Ny203.out] at ho33))
                                        have n0_ := Aside0.mk (Kd.R_elder' (by (with_reducible repeat (first | apply Kd.R_alloc | apply Kd.R_drewN | apply Kd.R_drew)); exact HO202.out) (Kd.R_base ho33) hb)
                                        have n1_ := Aside0.mk (Kd.R_lower (Kd.R_new' ho33 (Kd.R_lt (by (with_reducible repeat (first | apply Kd.R_alloc | apply Kd.R_drewN | apply Kd.R_drew)); exact HO202.out))) (below_size (by repeat (first | (with_reducible first | exact HB.out | apply below_alloc | apply pw_below_drewN | apply below_drew1) | exact HB.out))))
                                        have n2_ := Aside0.mk (below_step (by repeat (first | (with_reducible first | exact HB.out | apply below_alloc | apply pw_below_drewN | apply below_drew1) | exact HB.out)) hb)
                                        clear HO202
                                        clear HB
                                        have HO202 := n0_
                                        have HO205 := n1_
                                        have HB := n2_
                                        clear n0_ n1_ n2_
                                        clear hb ho33
                                        refine hK.out _ _ ((Kd.C_string (P := Tryd.prog) (A := A0) (c := c0) Tryd.underlying35 Tryd.underlying5 Tryd.underlying9 (Kd.C_below HR0.out HB.out))) (fun hHeld => ?_)
                                        clear hK K
                                        refine norm_ (a' := ?_) ?_ ?_
                                        rotate_left
                                        · show Act.put _ (some 68) _ = _
                                          simp only [Act.put, List.setIfInBounds_toArray, List.set_cons_zero, List.set_cons_succ, i64_w, i32_w]
                                          rfl
                                        exact norm_ (by first | (simp only [putAll, Act.put, List.setIfInBounds_toArray, List.set_cons_zero, List.set_cons_succ]; done) | (simp only [putAll, Act.put, List.setIfInBounds_toArray, List.set_cons_zero, List.set_cons_succ]; rfl)) (hJ7_29 (v201, v204) _ ⟨hHeld, (by (with_reducible repeat (first | apply Kd.R_alloc | apply Kd.R_drewN | apply Kd.R_drew)); exact Kd.R_mono HO202.out (fun _ hk => hk.2)), (by (with_reducible repeat (first | apply Kd.R_alloc | apply Kd.R_drewN | apply Kd.R_drew)); exact Kd.R_mono HO205.out (fun _ hk => hk.2)), (by repeat (first | (with_reducible first | exact HB.out | apply below_alloc | apply pw_below_drewN | apply below_drew1) | exact HB.out))⟩)
                                  · skip
                                    rintro v204 w32 ⟨hS_, h0_, h1_⟩
                                    have n0_ : Aside0 (Kd.R (Kd.int .u8) 5 w32 w.heap.size (fun _ => True) v204 y203) := ⟨h0_⟩
                                    have n1_ : Aside0 (Below w.heap.size w w32) := ⟨h1_⟩
                                    clear HB
                                    clear h0_ h1_
                                    have HO205 := n0_
                                    have HB := n1_
                                    clear n0_ n1_
                                    have hHeld : (Go.convert 35 9 (.slice A0 l0.length c0)).run Tryd.prog w32 = .ok (.string (strOfNums l0)) w32 := hS_
                                    refine norm_ (a' := ?_) ?_ ?_
                                    rotate_left
                                    · simp only [putAll, Act.put, List.setIfInBounds_toArray, List.set_cons_zero, List.set_cons_succ]
                                      rfl
                                    refine one_ (i := 7) (N := some 46) #[true, true, true, true, true, true, true, true, false, false, true, true, true, true, false, true, true, true, true, true, true, true, true, true, true, true, true, true, true, true, true, true, false, false, true] rfl rfl (one_of HT_.out (by kernel_rfl)) (by decide) (fun K hK => ?_)
                                    refine Kd.R_lit_step (Kd.int .u8) _ 5 ?hg (N := 46) ?hd (xs := ([a3] : List Int)) (inner := [.int .u8 a3]) (ok := fun _ => True) (okp := fun _ => True) ?hr ?hp (fun _ hk => hk) trivial (Below.refl _ _) (Nat.le_refl _) (by simp) ?_; (case hd => rfl); (case hg => rfl); (case hr => first | (go_simp; done) | (go_simp; rfl)); (case hp => exact (Reps.one (show Kd.M (Kd.int .u8) _ _ _ a3 [.int .u8 a3] from rfl) (Reps.none _ _)))
                                    intro v201 w33 ho34 hb hg_ hnew_
                                    clear hg_ hnew_
                                    (first | rw [← Ny200.out] at ho34 | (simp only [Int.reduceToNat] at ho34; rw [← Ny200.out] at ho34))
                                    have n0_ := Aside0.mk (Kd.R_elder' (by (with_reducible repeat (first | apply Kd.R_alloc | apply Kd.R_drewN | apply Kd.R_drew)); exact HO205.out) (Kd.R_base ho34) hb)
                                    have n1_ := Aside0.mk (Kd.R_lower (Kd.R_new' ho34 (Kd.R_lt (by (with_reducible repeat (first | apply Kd.R_alloc | apply Kd.R_drewN | apply Kd.R_drew)); exact HO205.out))) (below_size (by repeat (first | (with_reducible first | exact HB.out | apply below_alloc | apply pw_below_drewN | apply below_drew1) | exact HB.out))))
                                    have n2_ := Aside0.mk (below_step (by repeat (first | (with_reducible first | exact HB.out | apply below_alloc | apply pw_below_drewN | apply below_drew1) | exact HB.out)) hb)
                                    clear HO205
                                    clear HB
                                    have HO205 := n0_
                                    have HO202 := n1_
                                    have HB := n2_
                                    clear n0_ n1_ n2_
                                    clear hb ho34
                                    refine hK.out _ _ ((Kd.C_string (P := Tryd.prog) (A := A0) (c := c0) Tryd.underlying35 Tryd.underlying5 Tryd.underlying9 (Kd.C_below HR0.out HB.out))) (fun hHeld => ?_)
                                    clear hK K
                                    refine norm_ (a' := ?_) ?_ ?_
                                    rotate_left
                                    · show Act.put _ (some 46) _ = _
                                      simp only [Act.put, List.setIfInBounds_toArray, List.set_cons_zero, List.set_cons_succ, i64_w, i32_w]
                                      rfl
                                    exact norm_ (by first | (simp only [putAll, Act.put, List.setIfInBounds_toArray, List.set_cons_zero, List.set_cons_succ]; done) | (simp only [putAll, Act.put, List.setIfInBounds_toArray, List.set_cons_zero, List.set_cons_succ]; rfl)) (hJ7_29_30 (v201, v204) _ ⟨hHeld, (by (with_reducible repeat (first | apply Kd.R_alloc | apply Kd.R_drewN | apply Kd.R_drew)); exact Kd.R_mono HO202.out (fun _ hk => hk.2)), (by (with_reducible repeat (first | apply Kd.R_alloc | apply Kd.R_drewN | apply Kd.R_drew)); exact Kd.R_mono HO205.out (fun _ hk => hk.2)), (by repeat (first | (with_reducible first | exact HB.out | apply below_alloc | apply pw_below_drewN | apply below_drew1) | exact HB.out))⟩)
                                · skip
                                  rintro ⟨v201, v204⟩ w33 ⟨hS_, h0_, h1_, h2_⟩
                                  have n0_ : Aside0 (Kd.R (Kd.int .u8) 5 w33 w.heap.size (fun k_ => some k_ ≠ (v204 : Value).ownBlock) v201 y200) := ⟨h0_⟩
                                  have n1_ : Aside0 (Kd.R (Kd.int .u8) 5 w33 w.heap.size (fun k_ => some k_ ≠ (v201 : Value).ownBlock) v204 y203) := ⟨h1_⟩
                                  have n2_ : Aside0 (Below w.heap.size w w33) := ⟨h2_⟩
                                  clear HB
                                  clear h0_ h1_ h2_
                                  have HO202 := n0_
                                  have HO205 := n1_
                                  have HB := n2_
                                  clear n0_ n1_ n2_
                                  have hHeld : (Go.convert 35 9 (.slice A0 l0.length c0)).run Tryd.prog w33 = .ok (.string (strOfNums l0)) w33 := hS_
                                  refine norm_ (a' := ?_) ?_ ?_
                                  rotate_left
                                  · simp only [putAll, Act.put, List.setIfInBounds_toArray, List.set_cons_zero, List.set_cons_succ]
                                    rfl
                                  refine two_ (i := 8) (j := 30) (Ni := some 47) (Nj := some 69) #[true, true, true, true, true, true, true, true, true, false, true, true, true, true, false, true, true, true, true, true, true, true, true, true, true, true, true, true, true, true, false, false, false, false, true] #[true, true, true, true, true, true, true, true, false, false, true, true, true, true, false, true, true, true, true, true, true, true, true, true, true, true, true, true, true, true, true, false, false, false, true] rfl rfl rfl rfl (two_of HT_.out (by kernel_rfl)) (by decide) (by decide) (fun K hK => ?_) (fun K hK => ?_)
                                  · skip
                                    have hcv34 := own_string (P := Tryd.prog) Tryd.underlying35 Tryd.underlying5 Tryd.underlying9 (Kd.own_of_R HO202.out)
                                    refine value_ (w1 := ?_) (v := ?_) (by rfl) rfl ?_ ?_
                                    rotate_left 2
                                    · go_simp
                                      constructor
                                      · rfl
                                      · rfl
                                    clear hcv34
                                    refine hK.out _ _ ((Kd.C_string (P := Tryd.prog) (A := A0) (c := c0) Tryd.underlying35 Tryd.underlying5 Tryd.underlying9 (Kd.C_below HR0.out HB.out))) (fun hHeld => ?_)
                                    clear hK K
                                    refine norm_ (a' := ?_) ?_ ?_
                                    rotate_left
                                    · show Act.put _ (some 47) _ = _
                                      simp only [Act.put, List.setIfInBounds_toArray, List.set_cons_zero, List.set_cons_succ, i64_w, i32_w]
                                      rfl
                                    refine pure_ (i := 9) (N := some 48) (v := ?_) (a' := ?_) #[true, true, true, true, true, true, true, true, true, true, true, true, true, true, false, true, true, true, true, true, true, true, true, true, true, true, true, true, true, true, false, false, false, false, true] rfl rfl (any_of HT_.out (by kernel_rfl)) (fun _ _ _ h => h) (Or.inl ⟨by rfl, ?_⟩) ?_ ?_
                                    rotate_left
                                    · intro w'
                                      go_simp
                                      with_reducible rfl
                                    rotate_left
                                    · simp only [Act.put, List.setIfInBounds_toArray, List.set_cons_zero, List.set_cons_succ, i64_w, i32_w]
                                      rfl
                                    refine pure_ (i := 14) (N := some 53) (v := ?_) (a' := ?_) #[true, true, true, true, true, true, true, true, true, true, true, true, true, true, true, true, true, true, true, true, true, true, true, true, true, true, true, true, true, true, false, false, false, false, true] rfl rfl (any_of HT_.out (by kernel_rfl)) (fun _ _ _ h => h) (Or.inl ⟨by rfl, ?_⟩) ?_ ?_
                                    rotate_left
                                    · intro w'
                                      go_simp
                                      with_reducible rfl
                                    rotate_left
                                    · simp only [Act.put, List.setIfInBounds_toArray, List.set_cons_zero, List.set_cons_succ, i64_w, i32_w]
                                      rfl
                                    exact norm_ (by first | (simp only [putAll, Act.put, List.setIfInBounds_toArray, List.set_cons_zero, List.set_cons_succ]; done) | (simp only [putAll, Act.put, List.setIfInBounds_toArray, List.set_cons_zero, List.set_cons_succ]; rfl)) (hJ7_8_29 (v201, v204) _ ⟨hHeld, (by (with_reducible repeat (first | apply Kd.R_alloc | apply Kd.R_drewN | apply Kd.R_drew)); exact HO202.out), (by (with_reducible repeat (first | apply Kd.R_alloc | apply Kd.R_drewN | apply Kd.R_drew)); exact HO205.out), (by repeat (first | (with_reducible first | exact HB.out | apply below_alloc | apply pw_below_drewN | apply below_drew1) | exact HB.out))⟩)
                                  · skip
                                    have hcv34 := own_string (P := Tryd.prog) Tryd.underlying35 Tryd.underlying5 Tryd.underlying9 (Kd.own_of_R HO205.out)
                                    refine value_ (w1 := ?_) (v := ?_) (by rfl) rfl ?_ ?_
                                    rotate_left 2
                                    · go_simp
                                      constructor
                                      · rfl
                                      · rfl
                                    clear hcv34
                                    refine hK.out _ _ ((Kd.C_string (P := Tryd.prog) (A := A0) (c := c0) Tryd.underlying35 Tryd.underlying5 Tryd.underlying9 (Kd.C_below HR0.out HB.out))) (fun hHeld => ?_)
                                    clear hK K
                                    refine norm_ (a' := ?_) ?_ ?_
                                    rotate_left
                                    · show Act.put _ (some 69) _ = _
                                      simp only [Act.put, List.setIfInBounds_toArray, List.set_cons_zero, List.set_cons_succ, i64_w, i32_w]
                                      rfl
                                    refine pure_ (i := 31) (N := some 70) (v := ?_) (a' := ?_) #[true, true, true, true, true, true, true, true, false, false, true, true, true, true, false, true, true, true, true, true, true, true, true, true, true, true, true, true, true, true, true, true, false, false, true] rfl rfl (any_of HT_.out (by kernel_rfl)) (fun _ _ _ h => h) (Or.inl ⟨by rfl, ?_⟩) ?_ ?_
                                    rotate_left
                                    · intro w'
                                      go_simp
                                      with_reducible rfl
                                    rotate_left
                                    · simp only [Act.put, List.setIfInBounds_toArray, List.set_cons_zero, List.set_cons_succ, i64_w, i32_w]
                                      rfl
                                    exact norm_ (by first | (simp only [putAll, Act.put, List.setIfInBounds_toArray, List.set_cons_zero, List.set_cons_succ]; done) | (simp only [putAll, Act.put, List.setIfInBounds_toArray, List.set_cons_zero, List.set_cons_succ]; rfl)) (hJ7_29_30 (v201, v204) _ ⟨hHeld, (by (with_reducible repeat (first | apply Kd.R_alloc | apply Kd.R_drewN | apply Kd.R_drew)); exact HO202.out), (by (with_reducible repeat (first | apply Kd.R_alloc | apply Kd.R_drewN | apply Kd.R_drew)); exact HO205.out), (by repeat (first | (with_reducible first | exact HB.out | apply below_alloc | apply pw_below_drewN | apply below_drew1) | exact HB.out))⟩)
                              · skip
                                rintro v201 w32 ⟨hS_, h0_, h1_⟩
                                have n0_ : Aside0 (Kd.R (Kd.int .u8) 5 w32 w.heap.size (fun _ => True) v201 y200) := ⟨h0_⟩
                                have n1_ : Aside0 (Below w.heap.size w w32) := ⟨h1_⟩
                                clear HB
                                clear h0_ h1_
                                have HO202 := n0_
                                have HB := n1_
                                clear n0_ n1_
                                have hHeld : (Go.convert 35 9 (.slice A0 l0.length c0)).run Tryd.prog w32 = .ok (.string (strOfNums l0)) w32 := hS_
                                refine norm_ (a' := ?_) ?_ ?_
                                rotate_left
                                · simp only [putAll, Act.put, List.setIfInBounds_toArray, List.set_cons_zero, List.set_cons_succ]
                                  rfl
                                refine one_ (i := 29) (N := some 68) #[true, true, true, true, true, true, true, true, true, true, true, true, true, true, true, true, true, true, true, true, true, true, true, true, true, true, true, true, true, true, false, false, false, false, true] rfl rfl (one_of HT_.out (by kernel_rfl)) (by decide) (fun K hK => ?_)
                                refine Kd.R_lit_step (Kd.int .u8) _ 5 ?hg (N := 68) ?hd (xs := ([a3] : List Int)) (inner := [.int .u8 a3]) (ok := fun _ => True) (okp := fun _ => True) ?hr ?hp (fun _ hk => hk) trivial (Below.refl _ _) (Nat.le_refl _) (by simp) ?_; (case hd => rfl); (case hg => rfl); (case hr => first | (go_simp; done) | (go_simp; rfl)); (case hp => exact (Reps.one (show Kd.M (Kd.int .u8) _ _ _ a3 [.int .u8 a3] from rfl) (Reps.none _ _)))
                                intro v204 w33 ho34 hb hg_ hnew_
                                clear hg_ hnew_
                                (first | rw [← Ny203.out] at ho34 | (simp only [Int.reduceToNat] at ho34; rw [← Ny203.out] at ho34))
                                have n0_ := Aside0.mk (Kd.R_elder' (by (with_reducible repeat (first | apply Kd.R_alloc | apply Kd.R_drewN | apply Kd.R_drew)); exact HO202.out) (Kd.R_base ho34) hb)
                                have n1_ := Aside0.mk (Kd.R_lower (Kd.R_new' ho34 (Kd.R_lt (by (with_reducible repeat (first | apply Kd.R_alloc | apply Kd.R_drewN | apply Kd.R_drew)); exact HO202.out))) (below_size (by repeat (first | (with_reducible first | exact HB.out | apply below_alloc | apply pw_below_drewN | apply below_drew1) | exact HB.out))))
                                have n2_ := Aside0.mk (below_step (by repeat (first | (with_reducible first | exact HB.out | apply below_alloc | apply pw_below_drewN | apply below_drew1) | exact HB.out)) hb)
                                clear HO202
                                clear HB
                                have HO202 := n0_
                                have HO205 := n1_
                                have HB := n2_
                                clear n0_ n1_ n2_
                                clear hb ho34
                                refine hK.out _ _ ((Kd.C_string (P := Tryd.prog) (A := A0) (c := c0) Tryd.underlying35 Tryd.underlying5 Tryd.underlying9 (Kd.C_below HR0.out HB.out))) (fun hHeld => ?_)
                                clear hK K
                                refine norm_ (a' := ?_) ?_ ?_
                                rotate_left
                                · show Act.put _ (some 68) _ = _
                                  simp only [Act.put, List.setIfInBounds_toArray, List.set_cons_zero, List.set_cons_succ, i64_w, i32_w]
                                  rfl
                                exact norm_ (by first | (simp only [putAll, Act.put, List.setIfInBounds_toArray, List.set_cons_zero, List.set_cons_succ]; done) | (simp only [putAll, Act.put, List.setIfInBounds_toArray, List.set_cons_zero, List.set_cons_succ]; rfl)) (hJ7_8_29 (v201, v204) _ ⟨hHeld, (by (with_reducible repeat (first | apply Kd.R_alloc | apply Kd.R_drewN | apply Kd.R_drew)); exact Kd.R_mono HO202.out (fun _ hk => hk.2)), (by (with_reducible repeat (first | apply Kd.R_alloc | apply Kd.R_drewN | apply Kd.R_drew)); exact Kd.R_mono HO205.out (fun _ hk => hk.2)), (by repeat (first | (with_reducible first | exact HB.out | apply below_alloc | apply pw_below_drewN | apply below_drew1) | exact HB.out))⟩)
                            · skip
                              rintro ⟨v201, v204⟩ w34 ⟨hS_, h0_, h1_, h2_⟩
                              have n0_ : Aside0 (Kd.R (Kd.int .u8) 5 w34 w.heap.size (fun k_ => some k_ ≠ (v204 : Value).ownBlock) v201 y200) := ⟨h0_⟩
                              have n1_ : Aside0 (Kd.R (Kd.int .u8) 5 w34 w.heap.size (fun k_ => some k_ ≠ (v201 : Value).ownBlock) v204 y203) := ⟨h1_⟩
                              have n2_ : Aside0 (Below w.heap.size w w34) := ⟨h2_⟩
                              clear HB
                              clear h0_ h1_ h2_
                              have HO202 := n0_
                              have HO205 := n1_
                              have HB := n2_
                              clear n0_ n1_ n2_
                              have hHeld : (Go.convert 35 9 (.slice A0 l0.length c0)).run Tryd.prog w34 = .ok (.string (strOfNums l0)) w34 := hS_
                              refine norm_ (a' := ?_) ?_ ?_
                              rotate_left
                              · simp only [putAll, Act.put, List.setIfInBounds_toArray, List.set_cons_zero, List.set_cons_succ]
                                rfl
                              refine one_ (i := 8) (N := some 47) #[true, true, true, true, true, true, true, true, true, false, true, true, true, true, false, true, true, true, true, true, true, true, true, true, true, true, true, true, true, true, true, true, false, false, true] rfl rfl (one_of HT_.out (by kernel_rfl)) (by decide) (fun K hK => ?_)
                              have hcv35 := own_string (P := Tryd.prog) Tryd.underlying35 Tryd.underlying5 Tryd.underlying9 (Kd.own_of_R HO202.out)
                              refine value_ (w1 := ?_) (v := ?_) (by rfl) rfl ?_ ?_
                              rotate_left 2
                              · go_simp
                                constructor
                                · rfl
                                · rfl
                              clear hcv35
                              refine hK.out _ _ ((Kd.C_string (P := Tryd.prog) (A := A0) (c := c0) Tryd.underlying35 Tryd.underlying5 Tryd.underlying9 (Kd.C_below HR0.out HB.out))) (fun hHeld => ?_)
                              clear hK K
                              refine norm_ (a' := ?_) ?_ ?_
                              rotate_left
                              · show Act.put _ (some 47) _ = _
                                simp only [Act.put, List.setIfInBounds_toArray, List.set_cons_zero, List.set_cons_succ, i64_w, i32_w]
                                rfl
                              refine pure_ (i := 9) (N := some 48) (v := ?_) (a' := ?_) #[true, true, true, true, true, true, true, true, true, true, true, true, true, true, false, true, true, true, true, true, true, true, true, true, true, true, true, true, true, true, true, true, false, false, true] rfl rfl (any_of HT_.out (by kernel_rfl)) (fun _ _ _ h => h) (Or.inl ⟨by rfl, ?_⟩) ?_ ?_
                              rotate_left
                              · intro w'
                                go_simp
                                with_reducible rfl
                              rotate_left
                              · simp only [Act.put, List.setIfInBounds_toArray, List.set_cons_zero, List.set_cons_succ, i64_w, i32_w]
                                rfl
                              refine pure_ (i := 14) (N := some 53) (v := ?_) (a' := ?_) #[true, true, true, true, true, true, true, true, true, true, true, true, true, true, true, true, true, true, true, true, true, true, true, true, true, true, true, true, true, true, true, true, false, false, true] rfl rfl (any_of HT_.out (by kernel_rfl)) (fun _ _ _ h => h) (Or.inl ⟨by rfl, ?_⟩) ?_ ?_
                              rotate_left
                              · intro w'
                                go_simp
                                with_reducible rfl
                              rotate_left
                              · simp only [Act.put, List.setIfInBounds_toArray, List.set_cons_zero, List.set_cons_succ, i64_w, i32_w]
                                rfl
                              exact norm_ (by first | (simp only [putAll, Act.put, List.setIfInBounds_toArray, List.set_cons_zero, List.set_cons_succ]; done) | (simp only [putAll, Act.put, List.setIfInBounds_toArray, List.set_cons_zero, List.set_cons_succ]; rfl)) (hJ7_8_29_30 (v201, v204) _ ⟨hHeld, (by (with_reducible repeat (first | apply Kd.R_alloc | apply Kd.R_drewN | apply Kd.R_drew)); exact HO202.out), (by (with_reducible repeat (first | apply Kd.R_alloc | apply Kd.R_drewN | apply Kd.R_drew)); exact HO205.out), (by repeat (first | (with_reducible first | exact HB.out | apply below_alloc | apply pw_below_drewN | apply below_drew1) | exact HB.out))⟩)
                          · skip
                            rintro ⟨v201, v204⟩ w34 ⟨hS_, h0_, h1_, h2_⟩
                            have n0_ : Aside0 (Kd.R (Kd.int .u8) 5 w34 w.heap.size (fun k_ => some k_ ≠ (v204 : Value).ownBlock) v201 y200) := ⟨h0_⟩
                            have n1_ : Aside0 (Kd.R (Kd.int .u8) 5 w34 w.heap.size (fun k_ => some k_ ≠ (v201 : Value).ownBlock) v204 y203) := ⟨h1_⟩
                            have n2_ : Aside0 (Below w.heap.size w w34) := ⟨h2_⟩
                            clear HB
                            clear h0_ h1_ h2_
                            have HO202 := n0_
                            have HO205 := n1_
                            have HB := n2_
                            clear n0_ n1_ n2_
                            have hHeld : (Go.convert 35 9 (.slice A0 l0.length c0)).run Tryd.prog w34 = .ok (.string (strOfNums l0)) w34 := hS_
                            refine norm_ (a' := ?_) ?_ ?_
                            rotate_left
                            · simp only [putAll, Act.put, List.setIfInBounds_toArray, List.set_cons_zero, List.set_cons_succ]
                              rfl
                            refine one_ (i := 30) (N := some 69) #[true, true, true, true, true, true, true, true, true, true, true, true, true, true, true, true, true, true, true, true, true, true, true, true, true, true, true, true, true, true, true, false, false, false, true] rfl rfl (one_of HT_.out (by kernel_rfl)) (by decide) (fun K hK => ?_)
                            have hcv35 := own_string (P := Tryd.prog) Tryd.underlying35 Tryd.underlying5 Tryd.underlying9 (Kd.own_of_R HO205.out)
                            refine value_ (w1 := ?_) (v := ?_) (by rfl) rfl ?_ ?_
                            rotate_left 2
                            · go_simp
                              constructor
                              · rfl
                              · rfl
                            clear hcv35
                            refine hK.out _ _ ((Kd.C_string (P := Tryd.prog) (A := A0) (c := c0) Tryd.underlying35 Tryd.underlying5 Tryd.underlying9 (Kd.C_below HR0.out HB.out))) (fun hHeld => ?_)
                            clear hK K
                            refine norm_ (a' := ?_) ?_ ?_
                            rotate_left
                            · show Act.put _ (some 69) _ = _
                              simp only [Act.put, List.setIfInBounds_toArray, List.set_cons_zero, List.set_cons_succ, i64_w, i32_w]
                              rfl
                            refine pure_ (i := 31) (N := some 70) (v := ?_) (a' := ?_) #[true, true, true, true, true, true, true, true, true, true, true, true, true, true, true, true, true, true, true, true, true, true, true, true, true, true, true, true, true, true, true, true, false, false, true] rfl rfl (any_of HT_.out (by kernel_rfl)) (fun _ _ _ h => h) (Or.inl ⟨by rfl, ?_⟩) ?_ ?_
                            rotate_left
                            · intro w'
                              go_simp
                              with_reducible rfl
                            rotate_left
                            · simp only [Act.put, List.setIfInBounds_toArray, List.set_cons_zero, List.set_cons_succ, i64_w, i32_w]
                              rfl
                            exact norm_ (by first | (simp only [putAll, Act.put, List.setIfInBounds_toArray, List.set_cons_zero, List.set_cons_succ]; done) | (simp only [putAll, Act.put, List.setIfInBounds_toArray, List.set_cons_zero, List.set_cons_succ]; rfl)) (hJ7_8_29_30 (v201, v204) _ ⟨hHeld, (by (with_reducible repeat (first | apply Kd.R_alloc | apply Kd.R_drewN | apply Kd.R_drew)); exact HO202.out), (by (with_reducible repeat (first | apply Kd.R_alloc | apply Kd.R_drewN | apply Kd.R_drew)); exact HO205.out), (by repeat (first | (with_reducible first | exact HB.out | apply below_alloc | apply pw_below_drewN | apply below_drew1) | exact HB.out))⟩)
                        rintro ⟨v201, v204⟩ w35 ⟨hS_, h0_, h1_, h2_⟩
                        have n0_ : Aside0 (Kd.R (Kd.int .u8) 5 w35 w.heap.size (fun k_ => some k_ ≠ (v204 : Value).ownBlock) v201 y200) := ⟨h0_⟩
                        have n1_ : Aside0 (Kd.R (Kd.int .u8) 5 w35 w.heap.size (fun k_ => some k_ ≠ (v201 : Value).ownBlock) v204 y203) := ⟨h1_⟩
                        have n2_ : Aside0 (Below w.heap.size w w35) := ⟨h2_⟩
                        clear HB
                        clear h0_ h1_ h2_
                        have HO202 := n0_
                        have HO205 := n1_
                        have HB := n2_
                        clear n0_ n1_ n2_
                        have hHeld : (Go.convert 35 9 (.slice A0 l0.length c0)).run Tryd.prog w35 = .ok (.string (strOfNums l0)) w35 := hS_
                        refine norm_ (a' := ?_) ?_ ?_
                        rotate_left
                        · simp only [putAll, Act.put, List.setIfInBounds_toArray, List.set_cons_zero, List.set_cons_succ]
                          rfl
                        refine one_ (i := 32) (N := some 71) #[true, true, true, true, true, true, true, true, true, true, true, true, true, true, true, true, true, true, true, true, true, true, true, true, true, true, true, true, true, true, true, true, true, false, true] rfl rfl (one_of HT_.out (by kernel_rfl)) (by decide) (fun K hK => ?_)
                        refine Kd.R_lit_step Kd.string _ 9 ?hg (N := 71) ?hd (xs := ([strOfNums l0, t198, ((t198.extract 0 ((ji10) : Int).toNat) ++ (strOfNums y200)) ++ (t198.extract ((ji14) : Int).toNat t198.size), t198.extract 0 ((ji10) : Int).toNat, ((t198.extract 0 ((ji10) : Int).toNat) ++ (⟨#[65]⟩ : ByteArray)) ++ (t198.extract ((ji14) : Int).toNat t198.size), t198 ++ (strOfNums y203)] : List ByteArray)) (inner := [.string (strOfNums l0), .string t198, .string (((t198.extract 0 ((ji10) : Int).toNat) ++ (strOfNums y200)) ++ (t198.extract ((ji14) : Int).toNat t198.size)), .string (t198.extract 0 ((ji10) : Int).toNat), .string (((t198.extract 0 ((ji10) : Int).toNat) ++ (⟨#[65]⟩ : ByteArray)) ++ (t198.extract ((ji14) : Int).toNat t198.size)), .string (t198 ++ (strOfNums y203))]) (ok := fun _ => True) (okp := fun _ => True) ?hr ?hp (fun _ hk => hk) trivial (Below.refl _ _) (Nat.le_refl _) (by simp) ?_; (case hd => rfl); (case hg => rfl); (case hr => first | (go_simp; done) | (go_simp; rfl)); (case hp => exact (Reps.one (show Kd.M Kd.string _ _ _ (strOfNums l0) [.string (strOfNums l0)] from rfl) (Reps.one (show Kd.M Kd.string _ _ _ t198 [.string t198] from rfl) (Reps.one (show Kd.M Kd.string _ _ _ (((t198.extract 0 ((ji10) : Int).toNat) ++ (strOfNums y200)) ++ (t198.extract ((ji14) : Int).toNat t198.size)) [.string (((t198.extract 0 ((ji10) : Int).toNat) ++ (strOfNums y200)) ++ (t198.extract ((ji14) : Int).toNat t198.size))] from rfl) (Reps.one (show Kd.M Kd.string _ _ _ (t198.extract 0 ((ji10) : Int).toNat) [.string (t198.extract 0 ((ji10) : Int).toNat)] from rfl) (Reps.one (show Kd.M Kd.string _ _ _ (((t198.extract 0 ((ji10) : Int).toNat) ++ (⟨#[65]⟩ : ByteArray)) ++ (t198.extract ((ji14) : Int).toNat t198.size)) [.string (((t198.extract 0 ((ji10) : Int).toNat) ++ (⟨#[65]⟩ : ByteArray)) ++ (t198.extract ((ji14) : Int).toNat t198.size))] from rfl) (Reps.one (show Kd.M Kd.string _ _ _ (t198 ++ (strOfNums y203)) [.string (t198 ++ (strOfNums y203))] from rfl) (Reps.none _ _))))))))
                        intro v207 w36 ho37 hb hg_ hnew_
                        clear hg_ hnew_
                        (first | rw [← Ny206.out] at ho37 | (simp only [Int.reduceToNat] at ho37; rw [← Ny206.out] at ho37))
                        have n0_ := Aside0.mk (Kd.R_below (by (with_reducible repeat (first | apply Kd.R_alloc | apply Kd.R_drewN | apply Kd.R_drew)); exact HO202.out) hb)
                        have n1_ := Aside0.mk (Kd.R_below (by (with_reducible repeat (first | apply Kd.R_alloc | apply Kd.R_drewN | apply Kd.R_drew)); exact HO205.out) hb)
                        have n2_ := Aside0.mk (Kd.R_lower ho37 (below_size (by repeat (first | (with_reducible first | exact HB.out | apply below_alloc | apply pw_below_drewN | apply below_drew1) | exact HB.out))))
                        have n3_ := Aside0.mk (below_step (by repeat (first | (with_reducible first | exact HB.out | apply below_alloc | apply pw_below_drewN | apply below_drew1) | exact HB.out)) hb)
                        clear HO202
                        clear HO205
                        clear HB
                        have HO202 := n0_
                        have HO205 := n1_
                        have HO208 := n2_
                        have HB := n3_
                        clear n0_ n1_ n2_ n3_
                        clear hb ho37
                        obtain ⟨Ao38, co38, eo38⟩ := Kd.R_slice HO208.out
                        (first | subst eo38 | (injection eo38 with f1_ f2_ f3_; have f4_ := f1_.symm; have f5_ := f3_.symm; clear f1_ f2_ f3_; subst f4_; subst f5_))
                        refine hK.out _ _ ((Kd.C_string (P := Tryd.prog) (A := A0) (c := c0) Tryd.underlying35 Tryd.underlying5 Tryd.underlying9 (Kd.C_below HR0.out HB.out))) (fun hHeld => ?_)
                        clear hK K
                        refine norm_ (a' := ?_) ?_ ?_
                        rotate_left
                        · show Act.put _ (some 71) _ = _
                          simp only [Act.put, List.setIfInBounds_toArray, List.set_cons_zero, List.set_cons_succ, i64_w, i32_w]
                          rfl
                        refine pure_ (i := 33) (N := some 72) (v := ?_) (a' := ?_) #[true, true, true, true, true, true, true, true, true, true, true, true, true, true, true, true, true, true, true, true, true, true, true, true, true, true, true, true, true, true, true, true, true, true, true] rfl rfl (any_of HT_.out (by kernel_rfl)) (fun _ _ _ h => h) (Or.inl ⟨by rfl, ?_⟩) ?_ ?_
                        rotate_left
                        · intro w'
                          go_simp
                          with_reducible rfl
                        rotate_left
                        · simp only [Act.put, List.setIfInBounds_toArray, List.set_cons_zero, List.set_cons_succ, i64_w, i32_w]
                          rfl
                        refine done_ (done_of HT_.out (by kernel_rfl)) ?_
                        try go_wp2
                        go_loopg [73] k (fun kq v73 w' => ∃ (x73_1 : Int), v73 = .int .i64 x73_1 ∧ Aside0 (glebelaw5_MacsTells.l0 kq a1 t198 y206 (y206.length : Int) x73_1 = some r) ∧ Aside0 (kq ≤ k) ∧ Aside0 (Kd.R Kd.string 9 w' w.heap.size (fun _ => True) (.slice Ao38 y206.length co38) y206) ∧ Aside0 (Below w.heap.size w w'))
                        case atStart => exact ⟨(0), (by first | rfl | (simp only [i64_w]; done) | (simp; done) | (simp [*]; done)), H', ⟨Nat.le_refl _⟩, ⟨by (with_reducible repeat (first | apply Kd.R_alloc | apply Kd.R_drewN | apply Kd.R_drew)); exact HO208.out⟩, ⟨by repeat (first | (with_reducible first | exact HB.out | apply below_alloc | apply pw_below_drewN | apply below_drew1) | exact HB.out)⟩⟩
                        case round =>
                          clear H'
                          try clear p2
                          try clear hcv3
                          try clear hcv32
                          try clear hcv34
                          try clear hcv35
                          obtain ⟨x73_1, rfl, HA, HK1, HO_71, HB⟩ := hrel
                          cases gk with
                          | zero => exact absurd HA.out (by simp [glebelaw5_MacsTells.l0])
                          | succ k1 =>
                            have H := HA.out
                            clear HA
                            simp only [glebelaw5_MacsTells.l0] at H
                            by_cases c39 : x73_1 < (y206.length : Int)
                            · rw [if_pos c39] at H
                              have c39b0 : decide (x73_1 < (y206.length : Int)) = true := decide_eq_true c39
                              clear c39
                              by_cases c40 : 0 ≤ x73_1
                              · rw [if_pos c40] at H
                                have c40b0 : decide (0 ≤ x73_1) = true := decide_eq_true c40
                                clear c40
                                by_cases c41 : x73_1 < (y206.length : Int)
                                · rw [if_pos c41] at H
                                  have c41b0 : decide (x73_1 < (y206.length : Int)) = true := decide_eq_true c41
                                  clear c41
                                  replace H := Option.bind_eq_some_iff.mp H
                                  obtain ⟨⟨t210, t211⟩, A420, H⟩ := H
                                  replace H : ((gleberef1_Mac.f k1 (rdOf ByteArray.empty y206 x73_1)).bind fun bt212 => (if t210 = bt212.1 then (if (t211 != bt212.2) = true then (none) else ((macs_Name.f k1 (rdOf ByteArray.empty y206 x73_1)).bind fun t214 => ((gleberef1_Name.f k1 (rdOf ByteArray.empty y206 x73_1)).bind fun t215 => (if (t214 != t215) = true then (none) else (glebelaw5_MacsTells.l0 k1 a1 t198 y206 (y206.length : Int) (wrap64 (x73_1 + 1))))))) else (none))) = some r := H
                                  have A42 := Aside0.mk A420
                                  clear A420
                                  replace H := Option.bind_eq_some_iff.mp H
                                  obtain ⟨⟨t212, t213⟩, A430, H⟩ := H
                                  replace H : (if t210 = t212 then (if (t211 != t213) = true then (none) else ((macs_Name.f k1 (rdOf ByteArray.empty y206 x73_1)).bind fun t214 => ((gleberef1_Name.f k1 (rdOf ByteArray.empty y206 x73_1)).bind fun t215 => (if (t214 != t215) = true then (none) else (glebelaw5_MacsTells.l0 k1 a1 t198 y206 (y206.length : Int) (wrap64 (x73_1 + 1))))))) else (none)) = some r := H
                                  have A43 := Aside0.mk A430
                                  clear A430
                                  by_cases c44 : t210 = t212
                                  · rw [if_pos c44] at H
                                    have c44b0 : (t210 == t212) = true := beq_iff_eq.mpr c44
                                    have c44b1 : (t210 != t212) = false := bne_eq_false_iff_eq.mpr c44
                                    clear c44
                                    by_cases c45 : (t211 != t213) = true
                                    · rw [if_pos c45] at H
                                      exact absurd H (by simp)
                                    · rw [if_neg c45] at H
                                      have c45b0 : (t211 != t213) = false := by simpa using c45
                                      (try (have c45b1 : decide (t211 = t213) = true := by simpa using c45))
                                      (try (have c45b2 : (t211 == t213) = true := by simpa using c45))
                                      clear c45
                                      replace H := Option.bind_eq_some_iff.mp H
                                      obtain ⟨t214, A460, H⟩ := H
                                      replace H : ((gleberef1_Name.f k1 (rdOf ByteArray.empty y206 x73_1)).bind fun t215 => (if (t214 != t215) = true then (none) else (glebelaw5_MacsTells.l0 k1 a1 t198 y206 (y206.length : Int) (wrap64 (x73_1 + 1))))) = some r := H
                                      have A46 := Aside0.mk A460
                                      clear A460
                                      replace H := Option.bind_eq_some_iff.mp H
                                      obtain ⟨t215, A470, H⟩ := H
                                      replace H : (if (t214 != t215) = true then (none) else (glebelaw5_MacsTells.l0 k1 a1 t198 y206 (y206.length : Int) (wrap64 (x73_1 + 1)))) = some r := H
                                      have A47 := Aside0.mk A470
                                      clear A470
                                      by_cases c48 : (t214 != t215) = true
                                      · rw [if_pos c48] at H
                                        exact absurd H (by simp)
                                      · rw [if_neg c48] at H
                                        have c48b0 : (t214 != t215) = false := by simpa using c48
                                        (try (have c48b1 : decide (t214 = t215) = true := by simpa using c48))
                                        (try (have c48b2 : (t214 == t215) = true := by simpa using c48))
                                        clear c48
                                        have H' := Aside0.mk H
                                        clear H
                                        have p209 : 0 ≤ (x73_1 : Int) := of_decide_eq_true (by first | (with_reducible assumption) | assumption)
                                        have q209 : x73_1 < (y206.length : Int) := of_decide_eq_true (by first | (with_reducible assumption) | assumption)
                                        obtain ⟨ad209, e209, hx209_0⟩ := Kd.at_string (Kd.R_reads' HO_71.out).2.2 x73_1 p209 q209
                                        cases e209
                                        replace p209 := eq_true p209
                                        replace q209 := eq_true q209
                                        go_wp2_with (first | ((with_reducible refine gate_callee (f := 26) rfl ?_); refine goesL_ (some 79) rfl rfl Tryd.func26 (by kernel_rfl) rfl #[.string (rdOf ByteArray.empty y206 x73_1)] rfl (by (try simp only [List.map_toArray, List.map_cons, List.map_nil]); first | done | rfl | (simp only [List.length_drop, List.length_take]; rfl)) ?_; (with_reducible refine (macs_Parse.calls k1 (rdOf ByteArray.empty y206 x73_1) t210 t211 _ A42.out).mono ?_); rintro e w49 ⟨rfl, hb⟩; refine ⟨_, rfl, ?_⟩; have n0_ := Aside0.mk (Kd.R_below (by (with_reducible repeat (first | apply Kd.R_alloc | apply Kd.R_drewN | apply Kd.R_drew)); exact HO_71.out) hb); have n1_ := Aside0.mk (below_step (by repeat (first | (with_reducible first | exact HB.out | apply below_alloc | apply pw_below_drewN | apply below_drew1) | exact HB.out)) hb); clear HO_71; clear HB; have HO_71 := n0_; have HB := n1_; clear n0_ n1_; (try clear hb); (try clear hb2); (try clear hk); (try clear hi)) | ((with_reducible refine gate_callee (f := 31) rfl ?_); refine goesL_ (some 84) rfl rfl Tryd.func31 (by kernel_rfl) rfl #[.string (rdOf ByteArray.empty y206 x73_1)] rfl (by (try simp only [List.map_toArray, List.map_cons, List.map_nil]); first | done | rfl | (simp only [List.length_drop, List.length_take]; rfl)) ?_; (with_reducible refine (gleberef1_Mac.calls k1 (rdOf ByteArray.empty y206 x73_1) t212 t213 _ A43.out).mono ?_); rintro e w50 ⟨rfl, hb⟩; refine ⟨_, rfl, ?_⟩; have n0_ := Aside0.mk (Kd.R_below (by (with_reducible repeat (first | apply Kd.R_alloc | apply Kd.R_drewN | apply Kd.R_drew)); exact HO_71.out) hb); have n1_ := Aside0.mk (below_step (by repeat (first | (with_reducible first | exact HB.out | apply below_alloc | apply pw_below_drewN | apply below_drew1) | exact HB.out)) hb); clear HO_71; clear HB; have HO_71 := n0_; have HB := n1_; clear n0_ n1_; (try clear hb); (try clear hb2); (try clear hk); (try clear hi)) | (go_at_call 27; (with_reducible refine (macs_Name.calls k1 (rdOf ByteArray.empty y206 x73_1) t214 _ A46.out).mono ?_); rintro e w51 ⟨rfl, hb⟩; have n0_ := Aside0.mk (Kd.R_below (by (with_reducible repeat (first | apply Kd.R_alloc | apply Kd.R_drewN | apply Kd.R_drew)); exact HO_71.out) hb); have n1_ := Aside0.mk (below_step (by repeat (first | (with_reducible first | exact HB.out | apply below_alloc | apply pw_below_drewN | apply below_drew1) | exact HB.out)) hb); clear HO_71; clear HB; have HO_71 := n0_; have HB := n1_; clear n0_ n1_; (try clear hb); (try clear hb2); (try clear hk); (try clear hi)) | (go_at_call 32; (with_reducible refine (gleberef1_Name.calls k1 (rdOf ByteArray.empty y206 x73_1) t215 _ A47.out).mono ?_); rintro e w' ⟨rfl, ⟨nd, rfl⟩⟩))
                                        go_roundg k1
                                        case measure => have := HK1.out; omega
                                        case rel => exact ⟨(wrap64 (x73_1 + 1)), (by first | rfl | (simp only [i64_w]; done) | (simp; done) | (simp [*]; done)), H', ⟨by have := HK1.out; omega⟩, ⟨by (with_reducible repeat (first | apply Kd.R_alloc | apply Kd.R_drewN | apply Kd.R_drew)); exact HO_71.out⟩, ⟨by repeat (first | (with_reducible first | exact HB.out | apply below_alloc | apply pw_below_drewN | apply below_drew1) | exact HB.out)⟩⟩
                                  · rw [if_neg c44] at H
                                    exact absurd H (by simp)
                                · rw [if_neg c41] at H
                                  exact absurd H (by simp)
                              · rw [if_neg c40] at H
                                exact absurd H (by simp)
                            · rw [if_neg c39] at H
                              have c39b0 : decide (x73_1 < (y206.length : Int)) = false := decide_eq_false c39
                              clear c39
                              replace H := Option.bind_eq_some_iff.mp H
                              obtain ⟨⟨t216, t217⟩, A520, H⟩ := H
                              replace H : ((gleberef1_PrintMac.f k1 a1).bind fun bt218 => ((macs_Parse.f k1 t198).bind fun bt220 => (if t216.toList = bt218.1.toList then (if (t217 == bt218.2) = true then (if bt220.2 = true then (if bt220.1 = (Go.bits .and .u64 a1 281474976710655) then ((glebelaw5_awake.f k1).bind fun t222 => (some t222)) else (none)) else (none)) else (none)) else (none)))) = some r := H
                              have A52 := Aside0.mk A520
                              clear A520
                              replace H := Option.bind_eq_some_iff.mp H
                              obtain ⟨⟨t218, t219⟩, A530, H⟩ := H
                              replace H : ((macs_Parse.f k1 t198).bind fun bt220 => (if t216.toList = t218.toList then (if (t217 == t219) = true then (if bt220.2 = true then (if bt220.1 = (Go.bits .and .u64 a1 281474976710655) then ((glebelaw5_awake.f k1).bind fun t222 => (some t222)) else (none)) else (none)) else (none)) else (none))) = some r := H
                              have A53 := Aside0.mk A530
                              clear A530
                              replace H := Option.bind_eq_some_iff.mp H
                              obtain ⟨⟨t220, t221⟩, A540, H⟩ := H
                              replace H : (if t216.toList = t218.toList then (if (t217 == t219) = true then (if t221 = true then (if t220 = (Go.bits .and .u64 a1 281474976710655) then ((glebelaw5_awake.f k1).bind fun t222 => (some t222)) else (none)) else (none)) else (none)) else (none)) = some r := H
                              have A54 := Aside0.mk A540
                              clear A540
                              by_cases c55 : t216.toList = t218.toList
                              · rw [if_pos c55] at H
                                have c55b0 : (t216.toList == t218.toList) = true := beq_iff_eq.mpr c55
                                have c55b1 : (t216.toList != t218.toList) = false := bne_eq_false_iff_eq.mpr c55
                                clear c55
                                by_cases c56 : (t217 == t219) = true
                                · rw [if_pos c56] at H
                                  have c56b0 : (t217 == t219) = true := c56
                                  (try (have c56b1 : decide (t217 = t219) = true := by simpa using c56))
                                  (try (have c56b2 : (t217 == t219) = true := by simpa using c56))
                                  clear c56
                                  by_cases c57 : t221 = true
                                  · subst c57
                                    have H1 : (if t220 = (Go.bits .and .u64 a1 281474976710655) then ((glebelaw5_awake.f k1).bind fun t222 => (some t222)) else (none)) = some r := by rw [if_pos rfl] at H; exact H
                                    clear H
                                    have H := H1
                                    clear H1
                                    by_cases c58 : t220 = (Go.bits .and .u64 a1 281474976710655)
                                    · rw [if_pos c58] at H
                                      have c58b0 : (t220 == (Go.bits .and .u64 a1 281474976710655)) = true := beq_iff_eq.mpr c58
                                      have c58b1 : (t220 != (Go.bits .and .u64 a1 281474976710655)) = false := bne_eq_false_iff_eq.mpr c58
                                      clear c58
                                      replace H := Option.bind_eq_some_iff.mp H
                                      obtain ⟨t222, A590, H⟩ := H
                                      replace H : (some t222) = some r := H
                                      have A59 := Aside0.mk A590
                                      clear A590
                                      obtain rfl := Option.some.inj H
                                      go_wp2_with (first | ((with_reducible refine gate_callee (f := 29) rfl ?_); refine goesL_ (some 105) rfl rfl Tryd.func29 (by kernel_rfl) rfl #[.int .u64 a1] rfl (by (try simp only [List.map_toArray, List.map_cons, List.map_nil]); first | done | rfl | (simp only [List.length_drop, List.length_take]; rfl)) ?_; (with_reducible refine (macs_Print.calls k1 a1 t216 t217 _ A52.out).mono ?_); rintro e w60 ⟨rfl, hb⟩; refine ⟨_, rfl, ?_⟩; have n0_ := Aside0.mk (Kd.R_below (by (with_reducible repeat (first | apply Kd.R_alloc | apply Kd.R_drewN | apply Kd.R_drew)); exact HO_71.out) hb); have n1_ := Aside0.mk (below_step (by repeat (first | (with_reducible first | exact HB.out | apply below_alloc | apply pw_below_drewN | apply below_drew1) | exact HB.out)) hb); clear HO_71; clear HB; have HO_71 := n0_; have HB := n1_; clear n0_ n1_; (try clear hb); (try clear hb2); (try clear hk); (try clear hi)) | ((with_reducible refine gate_callee (f := 30) rfl ?_); refine goesL_ (some 110) rfl rfl Tryd.func30 (by kernel_rfl) rfl #[.int .u64 a1] rfl (by (try simp only [List.map_toArray, List.map_cons, List.map_nil]); first | done | rfl | (simp only [List.length_drop, List.length_take]; rfl)) ?_; (with_reducible refine (gleberef1_PrintMac.calls k1 a1 t218 t219 _ A53.out).mono ?_); rintro e w61 ⟨rfl, hb⟩; refine ⟨_, rfl, ?_⟩; have n0_ := Aside0.mk (Kd.R_below (by (with_reducible repeat (first | apply Kd.R_alloc | apply Kd.R_drewN | apply Kd.R_drew)); exact HO_71.out) hb); have n1_ := Aside0.mk (below_step (by repeat (first | (with_reducible first | exact HB.out | apply below_alloc | apply pw_below_drewN | apply below_drew1) | exact HB.out)) hb); clear HO_71; clear HB; have HO_71 := n0_; have HB := n1_; clear n0_ n1_; (try clear hb); (try clear hb2); (try clear hk); (try clear hi)) | ((with_reducible refine gate_callee (f := 26) rfl ?_); refine goesL_ (some 115) rfl rfl Tryd.func26 (by kernel_rfl) rfl #[.string t198] rfl (by (try simp only [List.map_toArray, List.map_cons, List.map_nil]); first | done | rfl | (simp only [List.length_drop, List.length_take]; rfl)) ?_; (with_reducible refine (macs_Parse.calls k1 t198 t220 true _ A54.out).mono ?_); rintro e w62 ⟨rfl, hb⟩; refine ⟨_, rfl, ?_⟩; have n0_ := Aside0.mk (Kd.R_below (by (with_reducible repeat (first | apply Kd.R_alloc | apply Kd.R_drewN | apply Kd.R_drew)); exact HO_71.out) hb); have n1_ := Aside0.mk (below_step (by repeat (first | (with_reducible first | exact HB.out | apply below_alloc | apply pw_below_drewN | apply below_drew1) | exact HB.out)) hb); clear HO_71; clear HB; have HO_71 := n0_; have HB := n1_; clear n0_ n1_; (try clear hb); (try clear hb2); (try clear hk); (try clear hi)) | (go_at_call 28; (with_reducible refine (glebelaw5_awake.calls k1  t222 _ A59.out).mono ?_); rintro e w63 ⟨rfl, hb⟩; have n0_ := Aside0.mk (Kd.R_below (by (with_reducible repeat (first | apply Kd.R_alloc | apply Kd.R_drewN | apply Kd.R_drew)); exact HO_71.out) hb); have n1_ := Aside0.mk (below_step (by repeat (first | (with_reducible first | exact HB.out | apply below_alloc | apply pw_below_drewN | apply below_drew1) | exact HB.out)) hb); clear HO_71; clear HB; have HO_71 := n0_; have HB := n1_; clear n0_ n1_; (try clear hb); (try clear hb2); (try clear hk); (try clear hi)))
                                      go_ret
                                      exact ⟨by first | rfl | (simp [errW_none, errW_some] <;> rfl) | (simp only [← hji10, ← hji14]; first | rfl | (simp [errW_none, errW_some] <;> rfl)) | (simp [*, errW_none, errW_some] <;> rfl), by repeat (first | (with_reducible first | exact HB.out | apply below_alloc | apply pw_below_drewN | apply below_drew1) | exact HB.out)⟩
                                    · rw [if_neg c58] at H
                                      exact absurd H (by simp)
                                  · replace c57 := Bool.eq_false_iff.mpr c57
                                    subst c57
                                    have H1 : (none) = some r := by rw [if_neg (show ¬ (false = true) by decide)] at H; exact H
                                    clear H
                                    have H := H1
                                    clear H1
                                    exact absurd H (by simp)
                                · rw [if_neg c56] at H
                                  exact absurd H (by simp)
                              · rw [if_neg c55] at H
                                exact absurd H (by simp)
                      · rw [if_neg c26] at H
                        exact absurd H (by simp)
                    · rw [if_neg c25] at H
                      exact absurd H (by simp)
                  · rw [if_neg c22] at H
                    exact absurd H (by simp)
                · rw [if_neg c17] at H
                  exact absurd H (by simp)
              · rw [if_neg c16] at H
                exact absurd H (by simp)
            · rw [if_neg c15] at H
              exact absurd H (by simp)
          · rw [if_neg c13] at H
            exact absurd H (by simp)
        · rw [if_neg c12] at H
          exact absurd H (by simp)
      · rw [if_neg c11] at H
        exact absurd H (by simp)

/-- THE ONE PURE STATEMENT of glebelaw5_MacsTells: yours. -/
def glebelaw5_MacsTells.Pure : Prop := ∀ (l0 : List Int) (a1 : Int) (a2 : Int) (a3 : Int), l0.length ≤ maxLen → l0.length * 1 ≤ 140737488351232 → (∀ x ∈ l0, (Lit.int .u8 x).wf = true) → (Lit.int .u64 a1).wf = true → (Lit.int .i64 a2).wf = true → (Lit.int .u8 a3).wf = true → ∃ k, glebelaw5_MacsTells.f k l0 a1 a2 a3 = some true
theorem glebelaw5_MacsTells.walk (P : glebelaw5_MacsTells.Pure) (a0 : Option Addr) (len0 cap0 : Nat) (z0 : List Int) (a1 : Int) (a2 : Int) (a3 : Int) (w : World) (w0 : (a0 = none ∧ len0 = 0 ∧ cap0 = 0 ∧ z0 = []) ∨ ∃ x, a0 = some x ∧ len0 ≤ cap0 ∧ cap0 ≤ maxLen ∧ z0.length = cap0 ∧ (∀ i, i < z0.length → w.cell? (x.add i) = some (.int .u8 (z0.getD i 0))) ∧ ∀ n ∈ z0, (Lit.int .u8 n).wf = true) (y0 : len0 * 1 ≤ 140737488351232) (w1 : (Lit.int .u64 a1).wf = true) (w2 : (Lit.int .i64 a2).wf = true) (w3 : (Lit.int .u8 a3).wf = true) :
    Calls Tryd.prog 9 #[.slice a0 len0 cap0, .int .u64 a1, .int .i64 a2, .int .u8 a3] w fun e w' => e = .returned (.bool true) ∧ Below w.heap.size w w' := by
  obtain ⟨l0, rfl, hr0, hm0, hw0, hc0⟩ := ReadsInt.ofRowC w0
  obtain ⟨k, h⟩ := P l0 a1 a2 a3 hm0 y0 hw0 w1 w2 w3
  refine (glebelaw5_MacsTells.calls k _ _ l0 a1 a2 a3 true w (Kd.C_of_reads (d := (0 : Int)) (h1 := fun _ => rfl) hr0) hc0 h).mono ?_
  rintro e w' ⟨rfl, hd⟩
  exact ⟨rfl, hd⟩

end Go.Proofs.YtcgchblljhbdaaaDoor.M
