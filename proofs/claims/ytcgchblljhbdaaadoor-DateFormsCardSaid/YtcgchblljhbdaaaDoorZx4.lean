-- Printed by this session's own program (wip/xprint) out of the translation. Lean checks it.
import Derived.Test.YtcgchblljhbdaaaDoorZx0
import Derived.Test.YtcgchblljhbdaaaDoorZx2
import Derived.Test.YtcgchblljhbdaaaDoorZx3
namespace Go.Proofs.YtcgchblljhbdaaaDoor.Z
open Go.Proofs.YtcgchblljhbdaaaDoor
open Go.RowKit Go.Proofs.YtcgchblljhbdaaaDoorW.PrintWords Go.Proofs.YtcgchblljhbdaaaDoorW.PrintLast Go.Proofs.YtcgchblljhbdaaaDoorW.PrintMore
attribute [local go_sem] max2_int min2_int max_two min_two max_three min_three max_four min_four   -- for this text's walks alone
set_option linter.unusedVariables false
set_option linter.unusedSimpArgs false

/-! ### glebelaw6_DateForms: function 3 -/
def glebelaw6_DateForms.j0 : Nat → Int → Bool → Bool → ByteArray → ByteArray → Int → Int → Option (Bool)
  | 0, _, _, _, _, _, _, _ => none
  | k + 1, x5, x6, x61, x161000, x161001, x161002, x161003 => if x61 = true then (none) else (if x6 = true then ((date_Print.f k x5).bind fun bt163 => (if bt163.2.2 = true then (if bt163.1.toList = x161000.toList then (if bt163.2.1.toList = x161001.toList then ((date_Week.f x5).bind fun t166 => (if t166 = x161003 then ((glebelaw6_awake.f k).bind fun t167 => (some t167)) else (none))) else (none)) else (none)) else (none))) else ((glebelaw6_awake.f k).bind fun t168 => (some t168)))
def glebelaw6_DateForms.f (k : Nat) (a0 : Int) : Option (Bool) := (some (([(⟨(⟨#[49, 57, 55, 48, 47, 48, 49, 47, 48, 49]⟩ : ByteArray), (⟨#[48, 48, 58, 48, 48, 58, 48, 48]⟩ : ByteArray), 0, 4⟩ : S23), (⟨(⟨#[49, 57, 55, 48, 47, 49, 50, 47, 51, 49]⟩ : ByteArray), (⟨#[50, 51, 58, 53, 57, 58, 53, 57]⟩ : ByteArray), 31535999, 4⟩ : S23), (⟨(⟨#[49, 57, 55, 50, 47, 48, 50, 47, 50, 57]⟩ : ByteArray), (⟨#[48, 48, 58, 48, 48, 58, 48, 48]⟩ : ByteArray), 68169600, 2⟩ : S23), (⟨(⟨#[49, 57, 57, 57, 47, 49, 50, 47, 51, 49]⟩ : ByteArray), (⟨#[50, 51, 58, 53, 57, 58, 53, 57]⟩ : ByteArray), 946684799, 5⟩ : S23), (⟨(⟨#[50, 48, 48, 48, 47, 48, 49, 47, 48, 49]⟩ : ByteArray), (⟨#[48, 48, 58, 48, 48, 58, 48, 48]⟩ : ByteArray), 946684800, 6⟩ : S23), (⟨(⟨#[50, 48, 48, 48, 47, 48, 50, 47, 50, 57]⟩ : ByteArray), (⟨#[49, 50, 58, 48, 48, 58, 48, 48]⟩ : ByteArray), 951825600, 2⟩ : S23), (⟨(⟨#[50, 48, 48, 49, 47, 48, 57, 47, 48, 57]⟩ : ByteArray), (⟨#[48, 49, 58, 52, 54, 58, 52, 48]⟩ : ByteArray), 1000000000, 0⟩ : S23), (⟨(⟨#[50, 48, 51, 56, 47, 48, 49, 47, 49, 57]⟩ : ByteArray), (⟨#[48, 51, 58, 49, 52, 58, 48, 56]⟩ : ByteArray), 2147483648, 2⟩ : S23), (⟨(⟨#[50, 49, 48, 48, 47, 48, 51, 47, 48, 49]⟩ : ByteArray), (⟨#[48, 48, 58, 48, 48, 58, 48, 48]⟩ : ByteArray), 4107542400, 1⟩ : S23), (⟨(⟨#[57, 57, 57, 57, 47, 49, 50, 47, 51, 49]⟩ : ByteArray), (⟨#[50, 51, 58, 53, 57, 58, 53, 57]⟩ : ByteArray), 253402300799, 5⟩ : S23), (⟨(⟨#[49, 57, 54, 57, 47, 49, 50, 47, 51, 49]⟩ : ByteArray), (⟨#[50, 51, 58, 53, 57, 58, 53, 57]⟩ : ByteArray), 0, (-1)⟩ : S23), (⟨(⟨#[50, 49, 48, 48, 47, 48, 50, 47, 50, 57]⟩ : ByteArray), (⟨#[48, 48, 58, 48, 48, 58, 48, 48]⟩ : ByteArray), 0, (-1)⟩ : S23), (⟨(⟨#[50, 48, 48, 49, 47, 48, 50, 47, 50, 57]⟩ : ByteArray), (⟨#[48, 48, 58, 48, 48, 58, 48, 48]⟩ : ByteArray), 0, (-1)⟩ : S23), (⟨(⟨#[50, 48, 48, 49, 47, 48, 48, 47, 48, 49]⟩ : ByteArray), (⟨#[48, 48, 58, 48, 48, 58, 48, 48]⟩ : ByteArray), 0, (-1)⟩ : S23), (⟨(⟨#[50, 48, 48, 49, 47, 49, 51, 47, 48, 49]⟩ : ByteArray), (⟨#[48, 48, 58, 48, 48, 58, 48, 48]⟩ : ByteArray), 0, (-1)⟩ : S23), (⟨(⟨#[50, 48, 48, 49, 47, 48, 52, 47, 51, 49]⟩ : ByteArray), (⟨#[48, 48, 58, 48, 48, 58, 48, 48]⟩ : ByteArray), 0, (-1)⟩ : S23), (⟨(⟨#[50, 48, 48, 49, 47, 48, 49, 47, 48, 48]⟩ : ByteArray), (⟨#[48, 48, 58, 48, 48, 58, 48, 48]⟩ : ByteArray), 0, (-1)⟩ : S23), (⟨(⟨#[50, 48, 48, 49, 47, 48, 49, 47, 48, 49]⟩ : ByteArray), (⟨#[50, 52, 58, 48, 48, 58, 48, 48]⟩ : ByteArray), 0, (-1)⟩ : S23), (⟨(⟨#[50, 48, 48, 49, 47, 48, 49, 47, 48, 49]⟩ : ByteArray), (⟨#[48, 48, 58, 54, 48, 58, 48, 48]⟩ : ByteArray), 0, (-1)⟩ : S23), (⟨(⟨#[50, 48, 48, 49, 47, 48, 49, 47, 48, 49]⟩ : ByteArray), (⟨#[48, 48, 58, 48, 48, 58, 54, 48]⟩ : ByteArray), 0, (-1)⟩ : S23), (⟨(⟨#[50, 48, 48, 49, 45, 48, 49, 45, 48, 49]⟩ : ByteArray), (⟨#[48, 48, 58, 48, 48, 58, 48, 48]⟩ : ByteArray), 0, (-1)⟩ : S23), (⟨(⟨#[50, 48, 48, 49, 47, 49, 47, 48, 49]⟩ : ByteArray), (⟨#[48, 48, 58, 48, 48, 58, 48, 48]⟩ : ByteArray), 0, (-1)⟩ : S23), (⟨(⟨#[50, 48, 48, 49, 47, 48, 49, 47, 48, 49]⟩ : ByteArray), (⟨#[48, 58, 48, 48, 58, 48, 48]⟩ : ByteArray), 0, (-1)⟩ : S23), (⟨(⟨#[]⟩ : ByteArray), (⟨#[]⟩ : ByteArray), 0, (-1)⟩ : S23)] : List (S23)) : List (S23))).bind fun y156 => (if (y156.length : Int) = 0 then (none) else (if 0 ≤ (Int.tmod (Go.bits .and .i64 a0 255) (y156.length : Int)) then (if (Int.tmod (Go.bits .and .i64 a0 255) (y156.length : Int)) < (y156.length : Int) then ((date_Parse.f k ((rd_T23 y156 (Int.tmod (Go.bits .and .i64 a0 255) (y156.length : Int))).f0) ((rd_T23 y156 (Int.tmod (Go.bits .and .i64 a0 255) (y156.length : Int))).f1)).bind fun bt161 => (if bt161.1 = ((rd_T23 y156 (Int.tmod (Go.bits .and .i64 a0 255) (y156.length : Int))).f2) then (glebelaw6_DateForms.j0 k bt161.1 bt161.2 (bt161.2 != (decide (((rd_T23 y156 (Int.tmod (Go.bits .and .i64 a0 255) (y156.length : Int))).f3) ≥ 0))) ((rd_T23 y156 (Int.tmod (Go.bits .and .i64 a0 255) (y156.length : Int))).f0) ((rd_T23 y156 (Int.tmod (Go.bits .and .i64 a0 255) (y156.length : Int))).f1) ((rd_T23 y156 (Int.tmod (Go.bits .and .i64 a0 255) (y156.length : Int))).f2) ((rd_T23 y156 (Int.tmod (Go.bits .and .i64 a0 255) (y156.length : Int))).f3)) else (glebelaw6_DateForms.j0 k bt161.1 bt161.2 true ((rd_T23 y156 (Int.tmod (Go.bits .and .i64 a0 255) (y156.length : Int))).f0) ((rd_T23 y156 (Int.tmod (Go.bits .and .i64 a0 255) (y156.length : Int))).f1) ((rd_T23 y156 (Int.tmod (Go.bits .and .i64 a0 255) (y156.length : Int))).f2) ((rd_T23 y156 (Int.tmod (Go.bits .and .i64 a0 255) (y156.length : Int))).f3)))) else (none)) else (none)))
theorem glebelaw6_DateForms.mono_l : ∀ k, (∀ y0 y1 y2 y3 y4 y5 y6, LeO (glebelaw6_DateForms.j0 k y0 y1 y2 y3 y4 y5 y6) (glebelaw6_DateForms.j0 (k + 1) y0 y1 y2 y3 y4 y5 y6))
  | 0 => fun _ _ _ _ _ _ _ r h => by simp [glebelaw6_DateForms.j0] at h
  | k + 1 => by
    have ih0 := glebelaw6_DateForms.mono_l k
    · intro y0 y1 y2 y3 y4 y5 y6
      unfold glebelaw6_DateForms.j0
      repeat' first
      | (with_reducible exact ih0 _ _ _ _ _ _ _)
      | (with_reducible exact date_Parse.mono _ _ _)
      | (with_reducible exact date_Print.mono _ _)
      | (with_reducible exact glebelaw6_awake.mono _)
      | (with_reducible exact LeO.refl _)
      | (with_reducible exact LeO.none _)
      | (with_reducible refine LeO.ite ?_ ?_)
      | (with_reducible refine LeO.bind ?_ (fun _ => ?_))
      | exact ih0 _ _ _ _ _ _ _
      | exact date_Parse.mono _ _ _
      | exact date_Print.mono _ _
      | exact glebelaw6_awake.mono _
      | exact LeO.none _
      | refine LeO.ite ?_ ?_
      | refine LeO.bind ?_ (fun _ => ?_)
theorem glebelaw6_DateForms.mono : ∀ a0 k, LeO (glebelaw6_DateForms.f k a0) (glebelaw6_DateForms.f (k + 1) a0) := by
  intro a0 k
  have ih0 := glebelaw6_DateForms.mono_l k
  unfold glebelaw6_DateForms.f
  repeat' first
      | (with_reducible exact ih0 _ _ _ _ _ _ _)
      | (with_reducible exact date_Parse.mono _ _ _)
      | (with_reducible exact date_Print.mono _ _)
      | (with_reducible exact glebelaw6_awake.mono _)
      | (with_reducible exact LeO.refl _)
      | (with_reducible exact LeO.none _)
      | (with_reducible refine LeO.ite ?_ ?_)
      | (with_reducible refine LeO.bind ?_ (fun _ => ?_))
      | exact ih0 _ _ _ _ _ _ _
      | exact date_Parse.mono _ _ _
      | exact date_Print.mono _ _
      | exact glebelaw6_awake.mono _
      | exact LeO.none _
      | refine LeO.ite ?_ ?_
      | refine LeO.bind ?_ (fun _ => ?_)
def glebelaw6_DateForms.T9 : Bool × List (List Nat × List Nat) := (true, [([], []), ([0], [0]), ([1], [1]), ([1], [1]), ([3, 1], [1, 3]), ([2, 4, 1], [1, 2, 4]), ([1, 5], [1, 5]), ([6, 1], [6]), ([7], [7]), ([7], [7]), ([9, 7], [7, 9]), ([8, 10, 7], [7, 8, 10]), ([7, 11], [7, 11]), ([12, 7], [12]), ([13], [13]), ([14, 13, 13], [13, 14]), ([13], [13]), ([16, 13], [13, 16]), ([15, 17, 13], [13, 15, 17]), ([13, 18], [13, 18]), ([19, 15], [19]), ([20, 20], [20]), ([20, 21], [20, 21]), ([22, 21, 0, 1, 2, 3, 4, 5, 6, 7, 8, 9, 10, 11, 12, 13, 14, 15, 16, 17, 18, 19, 20, 21, 22], [22])])
def glebelaw6_DateForms.B9 : List Nat := [0, 1, 3, 3, 11, 31, 63, 127, 255, 255, 767, 2047, 4095, 8191, 16383, 32767, 16383, 81919, 262143, 524287, 1048575, 2097151, 4194303, 8388607]
theorem glebelaw6_DateForms.tab9 : rtab .any (opsOf Tryd.f3 9) = glebelaw6_DateForms.T9 := by kernel_rfl
theorem glebelaw6_DateForms.bits9 : waitsOk glebelaw6_DateForms.T9.2 glebelaw6_DateForms.B9 = true := by kernel_rfl
set_option maxHeartbeats 8000000 in
set_option maxRecDepth 100000 in
theorem glebelaw6_DateForms.calls (k : Nat) (a0 : Int) (r : Bool) (w : World) (hTab : XT.Tabs w) (h : glebelaw6_DateForms.f k a0 = some r) :
    Calls Tryd.prog 3 #[.int .i64 a0] w fun e w' => e = .returned (.bool r) ∧ Below w.heap.size w w' := by
  have hu23 := Tryd.underlying23
  have HB := Aside0.mk (Below.refl w.heap.size w)
  have H : ((some (([(⟨(⟨#[49, 57, 55, 48, 47, 48, 49, 47, 48, 49]⟩ : ByteArray), (⟨#[48, 48, 58, 48, 48, 58, 48, 48]⟩ : ByteArray), 0, 4⟩ : S23), (⟨(⟨#[49, 57, 55, 48, 47, 49, 50, 47, 51, 49]⟩ : ByteArray), (⟨#[50, 51, 58, 53, 57, 58, 53, 57]⟩ : ByteArray), 31535999, 4⟩ : S23), (⟨(⟨#[49, 57, 55, 50, 47, 48, 50, 47, 50, 57]⟩ : ByteArray), (⟨#[48, 48, 58, 48, 48, 58, 48, 48]⟩ : ByteArray), 68169600, 2⟩ : S23), (⟨(⟨#[49, 57, 57, 57, 47, 49, 50, 47, 51, 49]⟩ : ByteArray), (⟨#[50, 51, 58, 53, 57, 58, 53, 57]⟩ : ByteArray), 946684799, 5⟩ : S23), (⟨(⟨#[50, 48, 48, 48, 47, 48, 49, 47, 48, 49]⟩ : ByteArray), (⟨#[48, 48, 58, 48, 48, 58, 48, 48]⟩ : ByteArray), 946684800, 6⟩ : S23), (⟨(⟨#[50, 48, 48, 48, 47, 48, 50, 47, 50, 57]⟩ : ByteArray), (⟨#[49, 50, 58, 48, 48, 58, 48, 48]⟩ : ByteArray), 951825600, 2⟩ : S23), (⟨(⟨#[50, 48, 48, 49, 47, 48, 57, 47, 48, 57]⟩ : ByteArray), (⟨#[48, 49, 58, 52, 54, 58, 52, 48]⟩ : ByteArray), 1000000000, 0⟩ : S23), (⟨(⟨#[50, 48, 51, 56, 47, 48, 49, 47, 49, 57]⟩ : ByteArray), (⟨#[48, 51, 58, 49, 52, 58, 48, 56]⟩ : ByteArray), 2147483648, 2⟩ : S23), (⟨(⟨#[50, 49, 48, 48, 47, 48, 51, 47, 48, 49]⟩ : ByteArray), (⟨#[48, 48, 58, 48, 48, 58, 48, 48]⟩ : ByteArray), 4107542400, 1⟩ : S23), (⟨(⟨#[57, 57, 57, 57, 47, 49, 50, 47, 51, 49]⟩ : ByteArray), (⟨#[50, 51, 58, 53, 57, 58, 53, 57]⟩ : ByteArray), 253402300799, 5⟩ : S23), (⟨(⟨#[49, 57, 54, 57, 47, 49, 50, 47, 51, 49]⟩ : ByteArray), (⟨#[50, 51, 58, 53, 57, 58, 53, 57]⟩ : ByteArray), 0, (-1)⟩ : S23), (⟨(⟨#[50, 49, 48, 48, 47, 48, 50, 47, 50, 57]⟩ : ByteArray), (⟨#[48, 48, 58, 48, 48, 58, 48, 48]⟩ : ByteArray), 0, (-1)⟩ : S23), (⟨(⟨#[50, 48, 48, 49, 47, 48, 50, 47, 50, 57]⟩ : ByteArray), (⟨#[48, 48, 58, 48, 48, 58, 48, 48]⟩ : ByteArray), 0, (-1)⟩ : S23), (⟨(⟨#[50, 48, 48, 49, 47, 48, 48, 47, 48, 49]⟩ : ByteArray), (⟨#[48, 48, 58, 48, 48, 58, 48, 48]⟩ : ByteArray), 0, (-1)⟩ : S23), (⟨(⟨#[50, 48, 48, 49, 47, 49, 51, 47, 48, 49]⟩ : ByteArray), (⟨#[48, 48, 58, 48, 48, 58, 48, 48]⟩ : ByteArray), 0, (-1)⟩ : S23), (⟨(⟨#[50, 48, 48, 49, 47, 48, 52, 47, 51, 49]⟩ : ByteArray), (⟨#[48, 48, 58, 48, 48, 58, 48, 48]⟩ : ByteArray), 0, (-1)⟩ : S23), (⟨(⟨#[50, 48, 48, 49, 47, 48, 49, 47, 48, 48]⟩ : ByteArray), (⟨#[48, 48, 58, 48, 48, 58, 48, 48]⟩ : ByteArray), 0, (-1)⟩ : S23), (⟨(⟨#[50, 48, 48, 49, 47, 48, 49, 47, 48, 49]⟩ : ByteArray), (⟨#[50, 52, 58, 48, 48, 58, 48, 48]⟩ : ByteArray), 0, (-1)⟩ : S23), (⟨(⟨#[50, 48, 48, 49, 47, 48, 49, 47, 48, 49]⟩ : ByteArray), (⟨#[48, 48, 58, 54, 48, 58, 48, 48]⟩ : ByteArray), 0, (-1)⟩ : S23), (⟨(⟨#[50, 48, 48, 49, 47, 48, 49, 47, 48, 49]⟩ : ByteArray), (⟨#[48, 48, 58, 48, 48, 58, 54, 48]⟩ : ByteArray), 0, (-1)⟩ : S23), (⟨(⟨#[50, 48, 48, 49, 45, 48, 49, 45, 48, 49]⟩ : ByteArray), (⟨#[48, 48, 58, 48, 48, 58, 48, 48]⟩ : ByteArray), 0, (-1)⟩ : S23), (⟨(⟨#[50, 48, 48, 49, 47, 49, 47, 48, 49]⟩ : ByteArray), (⟨#[48, 48, 58, 48, 48, 58, 48, 48]⟩ : ByteArray), 0, (-1)⟩ : S23), (⟨(⟨#[50, 48, 48, 49, 47, 48, 49, 47, 48, 49]⟩ : ByteArray), (⟨#[48, 58, 48, 48, 58, 48, 48]⟩ : ByteArray), 0, (-1)⟩ : S23), (⟨(⟨#[]⟩ : ByteArray), (⟨#[]⟩ : ByteArray), 0, (-1)⟩ : S23)] : List (S23)) : List (S23))).bind fun y156 => (if (y156.length : Int) = 0 then (none) else (if 0 ≤ (Int.tmod (Go.bits .and .i64 a0 255) (y156.length : Int)) then (if (Int.tmod (Go.bits .and .i64 a0 255) (y156.length : Int)) < (y156.length : Int) then ((date_Parse.f k ((rd_T23 y156 (Int.tmod (Go.bits .and .i64 a0 255) (y156.length : Int))).f0) ((rd_T23 y156 (Int.tmod (Go.bits .and .i64 a0 255) (y156.length : Int))).f1)).bind fun bt161 => (if bt161.1 = ((rd_T23 y156 (Int.tmod (Go.bits .and .i64 a0 255) (y156.length : Int))).f2) then (glebelaw6_DateForms.j0 k bt161.1 bt161.2 (bt161.2 != (decide (((rd_T23 y156 (Int.tmod (Go.bits .and .i64 a0 255) (y156.length : Int))).f3) ≥ 0))) ((rd_T23 y156 (Int.tmod (Go.bits .and .i64 a0 255) (y156.length : Int))).f0) ((rd_T23 y156 (Int.tmod (Go.bits .and .i64 a0 255) (y156.length : Int))).f1) ((rd_T23 y156 (Int.tmod (Go.bits .and .i64 a0 255) (y156.length : Int))).f2) ((rd_T23 y156 (Int.tmod (Go.bits .and .i64 a0 255) (y156.length : Int))).f3)) else (glebelaw6_DateForms.j0 k bt161.1 bt161.2 true ((rd_T23 y156 (Int.tmod (Go.bits .and .i64 a0 255) (y156.length : Int))).f0) ((rd_T23 y156 (Int.tmod (Go.bits .and .i64 a0 255) (y156.length : Int))).f1) ((rd_T23 y156 (Int.tmod (Go.bits .and .i64 a0 255) (y156.length : Int))).f2) ((rd_T23 y156 (Int.tmod (Go.bits .and .i64 a0 255) (y156.length : Int))).f3)))) else (none)) else (none)))) = some r := h
  clear h
  obtain ⟨y156, hy156⟩ : ∃ y_ : List (S23), y_ = (([(⟨(⟨#[49, 57, 55, 48, 47, 48, 49, 47, 48, 49]⟩ : ByteArray), (⟨#[48, 48, 58, 48, 48, 58, 48, 48]⟩ : ByteArray), 0, 4⟩ : S23), (⟨(⟨#[49, 57, 55, 48, 47, 49, 50, 47, 51, 49]⟩ : ByteArray), (⟨#[50, 51, 58, 53, 57, 58, 53, 57]⟩ : ByteArray), 31535999, 4⟩ : S23), (⟨(⟨#[49, 57, 55, 50, 47, 48, 50, 47, 50, 57]⟩ : ByteArray), (⟨#[48, 48, 58, 48, 48, 58, 48, 48]⟩ : ByteArray), 68169600, 2⟩ : S23), (⟨(⟨#[49, 57, 57, 57, 47, 49, 50, 47, 51, 49]⟩ : ByteArray), (⟨#[50, 51, 58, 53, 57, 58, 53, 57]⟩ : ByteArray), 946684799, 5⟩ : S23), (⟨(⟨#[50, 48, 48, 48, 47, 48, 49, 47, 48, 49]⟩ : ByteArray), (⟨#[48, 48, 58, 48, 48, 58, 48, 48]⟩ : ByteArray), 946684800, 6⟩ : S23), (⟨(⟨#[50, 48, 48, 48, 47, 48, 50, 47, 50, 57]⟩ : ByteArray), (⟨#[49, 50, 58, 48, 48, 58, 48, 48]⟩ : ByteArray), 951825600, 2⟩ : S23), (⟨(⟨#[50, 48, 48, 49, 47, 48, 57, 47, 48, 57]⟩ : ByteArray), (⟨#[48, 49, 58, 52, 54, 58, 52, 48]⟩ : ByteArray), 1000000000, 0⟩ : S23), (⟨(⟨#[50, 48, 51, 56, 47, 48, 49, 47, 49, 57]⟩ : ByteArray), (⟨#[48, 51, 58, 49, 52, 58, 48, 56]⟩ : ByteArray), 2147483648, 2⟩ : S23), (⟨(⟨#[50, 49, 48, 48, 47, 48, 51, 47, 48, 49]⟩ : ByteArray), (⟨#[48, 48, 58, 48, 48, 58, 48, 48]⟩ : ByteArray), 4107542400, 1⟩ : S23), (⟨(⟨#[57, 57, 57, 57, 47, 49, 50, 47, 51, 49]⟩ : ByteArray), (⟨#[50, 51, 58, 53, 57, 58, 53, 57]⟩ : ByteArray), 253402300799, 5⟩ : S23), (⟨(⟨#[49, 57, 54, 57, 47, 49, 50, 47, 51, 49]⟩ : ByteArray), (⟨#[50, 51, 58, 53, 57, 58, 53, 57]⟩ : ByteArray), 0, (-1)⟩ : S23), (⟨(⟨#[50, 49, 48, 48, 47, 48, 50, 47, 50, 57]⟩ : ByteArray), (⟨#[48, 48, 58, 48, 48, 58, 48, 48]⟩ : ByteArray), 0, (-1)⟩ : S23), (⟨(⟨#[50, 48, 48, 49, 47, 48, 50, 47, 50, 57]⟩ : ByteArray), (⟨#[48, 48, 58, 48, 48, 58, 48, 48]⟩ : ByteArray), 0, (-1)⟩ : S23), (⟨(⟨#[50, 48, 48, 49, 47, 48, 48, 47, 48, 49]⟩ : ByteArray), (⟨#[48, 48, 58, 48, 48, 58, 48, 48]⟩ : ByteArray), 0, (-1)⟩ : S23), (⟨(⟨#[50, 48, 48, 49, 47, 49, 51, 47, 48, 49]⟩ : ByteArray), (⟨#[48, 48, 58, 48, 48, 58, 48, 48]⟩ : ByteArray), 0, (-1)⟩ : S23), (⟨(⟨#[50, 48, 48, 49, 47, 48, 52, 47, 51, 49]⟩ : ByteArray), (⟨#[48, 48, 58, 48, 48, 58, 48, 48]⟩ : ByteArray), 0, (-1)⟩ : S23), (⟨(⟨#[50, 48, 48, 49, 47, 48, 49, 47, 48, 48]⟩ : ByteArray), (⟨#[48, 48, 58, 48, 48, 58, 48, 48]⟩ : ByteArray), 0, (-1)⟩ : S23), (⟨(⟨#[50, 48, 48, 49, 47, 48, 49, 47, 48, 49]⟩ : ByteArray), (⟨#[50, 52, 58, 48, 48, 58, 48, 48]⟩ : ByteArray), 0, (-1)⟩ : S23), (⟨(⟨#[50, 48, 48, 49, 47, 48, 49, 47, 48, 49]⟩ : ByteArray), (⟨#[48, 48, 58, 54, 48, 58, 48, 48]⟩ : ByteArray), 0, (-1)⟩ : S23), (⟨(⟨#[50, 48, 48, 49, 47, 48, 49, 47, 48, 49]⟩ : ByteArray), (⟨#[48, 48, 58, 48, 48, 58, 54, 48]⟩ : ByteArray), 0, (-1)⟩ : S23), (⟨(⟨#[50, 48, 48, 49, 45, 48, 49, 45, 48, 49]⟩ : ByteArray), (⟨#[48, 48, 58, 48, 48, 58, 48, 48]⟩ : ByteArray), 0, (-1)⟩ : S23), (⟨(⟨#[50, 48, 48, 49, 47, 49, 47, 48, 49]⟩ : ByteArray), (⟨#[48, 48, 58, 48, 48, 58, 48, 48]⟩ : ByteArray), 0, (-1)⟩ : S23), (⟨(⟨#[50, 48, 48, 49, 47, 48, 49, 47, 48, 49]⟩ : ByteArray), (⟨#[48, 58, 48, 48, 58, 48, 48]⟩ : ByteArray), 0, (-1)⟩ : S23), (⟨(⟨#[]⟩ : ByteArray), (⟨#[]⟩ : ByteArray), 0, (-1)⟩ : S23)] : List (S23))) := ⟨_, rfl⟩
  replace H : (if (y156.length : Int) = 0 then (none) else (if 0 ≤ (Int.tmod (Go.bits .and .i64 a0 255) (y156.length : Int)) then (if (Int.tmod (Go.bits .and .i64 a0 255) (y156.length : Int)) < (y156.length : Int) then ((date_Parse.f k ((rd_T23 y156 (Int.tmod (Go.bits .and .i64 a0 255) (y156.length : Int))).f0) ((rd_T23 y156 (Int.tmod (Go.bits .and .i64 a0 255) (y156.length : Int))).f1)).bind fun bt161 => (if bt161.1 = ((rd_T23 y156 (Int.tmod (Go.bits .and .i64 a0 255) (y156.length : Int))).f2) then (glebelaw6_DateForms.j0 k bt161.1 bt161.2 (bt161.2 != (decide (((rd_T23 y156 (Int.tmod (Go.bits .and .i64 a0 255) (y156.length : Int))).f3) ≥ 0))) ((rd_T23 y156 (Int.tmod (Go.bits .and .i64 a0 255) (y156.length : Int))).f0) ((rd_T23 y156 (Int.tmod (Go.bits .and .i64 a0 255) (y156.length : Int))).f1) ((rd_T23 y156 (Int.tmod (Go.bits .and .i64 a0 255) (y156.length : Int))).f2) ((rd_T23 y156 (Int.tmod (Go.bits .and .i64 a0 255) (y156.length : Int))).f3)) else (glebelaw6_DateForms.j0 k bt161.1 bt161.2 true ((rd_T23 y156 (Int.tmod (Go.bits .and .i64 a0 255) (y156.length : Int))).f0) ((rd_T23 y156 (Int.tmod (Go.bits .and .i64 a0 255) (y156.length : Int))).f1) ((rd_T23 y156 (Int.tmod (Go.bits .and .i64 a0 255) (y156.length : Int))).f2) ((rd_T23 y156 (Int.tmod (Go.bits .and .i64 a0 255) (y156.length : Int))).f3)))) else (none)) else (none))) = some r := by first | (rw [hy156]; with_reducible exact H) | (have H2_ := (Option.bind_some _ _).symm.trans H; rw [hy156]; with_reducible exact H2_) | (have H2_ := (Option.bind_some _ _).symm.trans H; with_reducible exact H2_) | with_reducible exact H | (rw [hy156]; exact H) | exact H
  have Ny156 := Aside0.mk hy156
  clear hy156
  by_cases c2 : (y156.length : Int) = 0
  · rw [if_pos c2] at H
    exact absurd H (by simp)
  · rw [if_neg c2] at H
    have c2b0 : ((y156.length : Int) == 0) = false := beq_eq_false_iff_ne.mpr c2
    have c2b1 : ((y156.length : Int) != 0) = true := bne_iff_ne.mpr c2
    have c2b2 : ¬ (y156 = []) := fun h_ => c2 (by rw [h_]; rfl)
    obtain ⟨ji3, hji3⟩ : ∃ j_ : Int, (Int.tmod (Go.bits .and .i64 a0 255) (y156.length : Int)) = j_ := ⟨_, rfl⟩
    replace H : (if 0 ≤ (ji3) then (if (ji3) < (y156.length : Int) then ((date_Parse.f k ((rd_T23 y156 (ji3)).f0) ((rd_T23 y156 (ji3)).f1)).bind fun bt161 => (if bt161.1 = ((rd_T23 y156 (ji3)).f2) then (glebelaw6_DateForms.j0 k bt161.1 bt161.2 (bt161.2 != (decide (((rd_T23 y156 (ji3)).f3) ≥ 0))) ((rd_T23 y156 (ji3)).f0) ((rd_T23 y156 (ji3)).f1) ((rd_T23 y156 (ji3)).f2) ((rd_T23 y156 (ji3)).f3)) else (glebelaw6_DateForms.j0 k bt161.1 bt161.2 true ((rd_T23 y156 (ji3)).f0) ((rd_T23 y156 (ji3)).f1) ((rd_T23 y156 (ji3)).f2) ((rd_T23 y156 (ji3)).f3)))) else (none)) else (none)) = some r := by first | (rw [hji3] at H; exact H) | (simp only [hji3] at H ⊢; exact H)
    by_cases c4 : 0 ≤ (ji3)
    · rw [if_pos c4] at H
      have c4b0 : decide (0 ≤ (ji3)) = true := decide_eq_true c4
      clear c4
      by_cases c5 : (ji3) < (y156.length : Int)
      · rw [if_pos c5] at H
        have c5b0 : decide ((ji3) < (y156.length : Int)) = true := decide_eq_true c5
        clear c5
        replace H := Option.bind_eq_some_iff.mp H
        obtain ⟨⟨t161, t162⟩, A60, H⟩ := H
        replace H : (if t161 = ((rd_T23 y156 (ji3)).f2) then (glebelaw6_DateForms.j0 k t161 t162 (t162 != (decide (((rd_T23 y156 (ji3)).f3) ≥ 0))) ((rd_T23 y156 (ji3)).f0) ((rd_T23 y156 (ji3)).f1) ((rd_T23 y156 (ji3)).f2) ((rd_T23 y156 (ji3)).f3)) else (glebelaw6_DateForms.j0 k t161 t162 true ((rd_T23 y156 (ji3)).f0) ((rd_T23 y156 (ji3)).f1) ((rd_T23 y156 (ji3)).f2) ((rd_T23 y156 (ji3)).f3))) = some r := H
        have A6 := Aside0.mk A60
        clear A60
        have HC7 := Aside0.mk H
        clear H
        go_enter Tryd.func3, Tryd.ntmps3
        go_upto_region 4 with (first | ((with_reducible refine gate_dst (N := 34) rfl ?_); refine Kd.R_lit k23 _ 23 ?hg (N := 34) ?hd (xs := ([(⟨(⟨#[49, 57, 55, 48, 47, 48, 49, 47, 48, 49]⟩ : ByteArray), (⟨#[48, 48, 58, 48, 48, 58, 48, 48]⟩ : ByteArray), 0, 4⟩ : S23), (⟨(⟨#[49, 57, 55, 48, 47, 49, 50, 47, 51, 49]⟩ : ByteArray), (⟨#[50, 51, 58, 53, 57, 58, 53, 57]⟩ : ByteArray), 31535999, 4⟩ : S23), (⟨(⟨#[49, 57, 55, 50, 47, 48, 50, 47, 50, 57]⟩ : ByteArray), (⟨#[48, 48, 58, 48, 48, 58, 48, 48]⟩ : ByteArray), 68169600, 2⟩ : S23), (⟨(⟨#[49, 57, 57, 57, 47, 49, 50, 47, 51, 49]⟩ : ByteArray), (⟨#[50, 51, 58, 53, 57, 58, 53, 57]⟩ : ByteArray), 946684799, 5⟩ : S23), (⟨(⟨#[50, 48, 48, 48, 47, 48, 49, 47, 48, 49]⟩ : ByteArray), (⟨#[48, 48, 58, 48, 48, 58, 48, 48]⟩ : ByteArray), 946684800, 6⟩ : S23), (⟨(⟨#[50, 48, 48, 48, 47, 48, 50, 47, 50, 57]⟩ : ByteArray), (⟨#[49, 50, 58, 48, 48, 58, 48, 48]⟩ : ByteArray), 951825600, 2⟩ : S23), (⟨(⟨#[50, 48, 48, 49, 47, 48, 57, 47, 48, 57]⟩ : ByteArray), (⟨#[48, 49, 58, 52, 54, 58, 52, 48]⟩ : ByteArray), 1000000000, 0⟩ : S23), (⟨(⟨#[50, 48, 51, 56, 47, 48, 49, 47, 49, 57]⟩ : ByteArray), (⟨#[48, 51, 58, 49, 52, 58, 48, 56]⟩ : ByteArray), 2147483648, 2⟩ : S23), (⟨(⟨#[50, 49, 48, 48, 47, 48, 51, 47, 48, 49]⟩ : ByteArray), (⟨#[48, 48, 58, 48, 48, 58, 48, 48]⟩ : ByteArray), 4107542400, 1⟩ : S23), (⟨(⟨#[57, 57, 57, 57, 47, 49, 50, 47, 51, 49]⟩ : ByteArray), (⟨#[50, 51, 58, 53, 57, 58, 53, 57]⟩ : ByteArray), 253402300799, 5⟩ : S23), (⟨(⟨#[49, 57, 54, 57, 47, 49, 50, 47, 51, 49]⟩ : ByteArray), (⟨#[50, 51, 58, 53, 57, 58, 53, 57]⟩ : ByteArray), 0, (-1)⟩ : S23), (⟨(⟨#[50, 49, 48, 48, 47, 48, 50, 47, 50, 57]⟩ : ByteArray), (⟨#[48, 48, 58, 48, 48, 58, 48, 48]⟩ : ByteArray), 0, (-1)⟩ : S23), (⟨(⟨#[50, 48, 48, 49, 47, 48, 50, 47, 50, 57]⟩ : ByteArray), (⟨#[48, 48, 58, 48, 48, 58, 48, 48]⟩ : ByteArray), 0, (-1)⟩ : S23), (⟨(⟨#[50, 48, 48, 49, 47, 48, 48, 47, 48, 49]⟩ : ByteArray), (⟨#[48, 48, 58, 48, 48, 58, 48, 48]⟩ : ByteArray), 0, (-1)⟩ : S23), (⟨(⟨#[50, 48, 48, 49, 47, 49, 51, 47, 48, 49]⟩ : ByteArray), (⟨#[48, 48, 58, 48, 48, 58, 48, 48]⟩ : ByteArray), 0, (-1)⟩ : S23), (⟨(⟨#[50, 48, 48, 49, 47, 48, 52, 47, 51, 49]⟩ : ByteArray), (⟨#[48, 48, 58, 48, 48, 58, 48, 48]⟩ : ByteArray), 0, (-1)⟩ : S23), (⟨(⟨#[50, 48, 48, 49, 47, 48, 49, 47, 48, 48]⟩ : ByteArray), (⟨#[48, 48, 58, 48, 48, 58, 48, 48]⟩ : ByteArray), 0, (-1)⟩ : S23), (⟨(⟨#[50, 48, 48, 49, 47, 48, 49, 47, 48, 49]⟩ : ByteArray), (⟨#[50, 52, 58, 48, 48, 58, 48, 48]⟩ : ByteArray), 0, (-1)⟩ : S23), (⟨(⟨#[50, 48, 48, 49, 47, 48, 49, 47, 48, 49]⟩ : ByteArray), (⟨#[48, 48, 58, 54, 48, 58, 48, 48]⟩ : ByteArray), 0, (-1)⟩ : S23), (⟨(⟨#[50, 48, 48, 49, 47, 48, 49, 47, 48, 49]⟩ : ByteArray), (⟨#[48, 48, 58, 48, 48, 58, 54, 48]⟩ : ByteArray), 0, (-1)⟩ : S23), (⟨(⟨#[50, 48, 48, 49, 45, 48, 49, 45, 48, 49]⟩ : ByteArray), (⟨#[48, 48, 58, 48, 48, 58, 48, 48]⟩ : ByteArray), 0, (-1)⟩ : S23), (⟨(⟨#[50, 48, 48, 49, 47, 49, 47, 48, 49]⟩ : ByteArray), (⟨#[48, 48, 58, 48, 48, 58, 48, 48]⟩ : ByteArray), 0, (-1)⟩ : S23), (⟨(⟨#[50, 48, 48, 49, 47, 48, 49, 47, 48, 49]⟩ : ByteArray), (⟨#[48, 58, 48, 48, 58, 48, 48]⟩ : ByteArray), 0, (-1)⟩ : S23), (⟨(⟨#[]⟩ : ByteArray), (⟨#[]⟩ : ByteArray), 0, (-1)⟩ : S23)] : List (S23))) (inner := [.string (⟨#[49, 57, 55, 48, 47, 48, 49, 47, 48, 49]⟩ : ByteArray), .string (⟨#[48, 48, 58, 48, 48, 58, 48, 48]⟩ : ByteArray), .int .u64 0, .int .i64 4, .string (⟨#[49, 57, 55, 48, 47, 49, 50, 47, 51, 49]⟩ : ByteArray), .string (⟨#[50, 51, 58, 53, 57, 58, 53, 57]⟩ : ByteArray), .int .u64 31535999, .int .i64 4, .string (⟨#[49, 57, 55, 50, 47, 48, 50, 47, 50, 57]⟩ : ByteArray), .string (⟨#[48, 48, 58, 48, 48, 58, 48, 48]⟩ : ByteArray), .int .u64 68169600, .int .i64 2, .string (⟨#[49, 57, 57, 57, 47, 49, 50, 47, 51, 49]⟩ : ByteArray), .string (⟨#[50, 51, 58, 53, 57, 58, 53, 57]⟩ : ByteArray), .int .u64 946684799, .int .i64 5, .string (⟨#[50, 48, 48, 48, 47, 48, 49, 47, 48, 49]⟩ : ByteArray), .string (⟨#[48, 48, 58, 48, 48, 58, 48, 48]⟩ : ByteArray), .int .u64 946684800, .int .i64 6, .string (⟨#[50, 48, 48, 48, 47, 48, 50, 47, 50, 57]⟩ : ByteArray), .string (⟨#[49, 50, 58, 48, 48, 58, 48, 48]⟩ : ByteArray), .int .u64 951825600, .int .i64 2, .string (⟨#[50, 48, 48, 49, 47, 48, 57, 47, 48, 57]⟩ : ByteArray), .string (⟨#[48, 49, 58, 52, 54, 58, 52, 48]⟩ : ByteArray), .int .u64 1000000000, .int .i64 0, .string (⟨#[50, 48, 51, 56, 47, 48, 49, 47, 49, 57]⟩ : ByteArray), .string (⟨#[48, 51, 58, 49, 52, 58, 48, 56]⟩ : ByteArray), .int .u64 2147483648, .int .i64 2, .string (⟨#[50, 49, 48, 48, 47, 48, 51, 47, 48, 49]⟩ : ByteArray), .string (⟨#[48, 48, 58, 48, 48, 58, 48, 48]⟩ : ByteArray), .int .u64 4107542400, .int .i64 1, .string (⟨#[57, 57, 57, 57, 47, 49, 50, 47, 51, 49]⟩ : ByteArray), .string (⟨#[50, 51, 58, 53, 57, 58, 53, 57]⟩ : ByteArray), .int .u64 253402300799, .int .i64 5, .string (⟨#[49, 57, 54, 57, 47, 49, 50, 47, 51, 49]⟩ : ByteArray), .string (⟨#[50, 51, 58, 53, 57, 58, 53, 57]⟩ : ByteArray), .int .u64 0, .int .i64 (-1), .string (⟨#[50, 49, 48, 48, 47, 48, 50, 47, 50, 57]⟩ : ByteArray), .string (⟨#[48, 48, 58, 48, 48, 58, 48, 48]⟩ : ByteArray), .int .u64 0, .int .i64 (-1), .string (⟨#[50, 48, 48, 49, 47, 48, 50, 47, 50, 57]⟩ : ByteArray), .string (⟨#[48, 48, 58, 48, 48, 58, 48, 48]⟩ : ByteArray), .int .u64 0, .int .i64 (-1), .string (⟨#[50, 48, 48, 49, 47, 48, 48, 47, 48, 49]⟩ : ByteArray), .string (⟨#[48, 48, 58, 48, 48, 58, 48, 48]⟩ : ByteArray), .int .u64 0, .int .i64 (-1), .string (⟨#[50, 48, 48, 49, 47, 49, 51, 47, 48, 49]⟩ : ByteArray), .string (⟨#[48, 48, 58, 48, 48, 58, 48, 48]⟩ : ByteArray), .int .u64 0, .int .i64 (-1), .string (⟨#[50, 48, 48, 49, 47, 48, 52, 47, 51, 49]⟩ : ByteArray), .string (⟨#[48, 48, 58, 48, 48, 58, 48, 48]⟩ : ByteArray), .int .u64 0, .int .i64 (-1), .string (⟨#[50, 48, 48, 49, 47, 48, 49, 47, 48, 48]⟩ : ByteArray), .string (⟨#[48, 48, 58, 48, 48, 58, 48, 48]⟩ : ByteArray), .int .u64 0, .int .i64 (-1), .string (⟨#[50, 48, 48, 49, 47, 48, 49, 47, 48, 49]⟩ : ByteArray), .string (⟨#[50, 52, 58, 48, 48, 58, 48, 48]⟩ : ByteArray), .int .u64 0, .int .i64 (-1), .string (⟨#[50, 48, 48, 49, 47, 48, 49, 47, 48, 49]⟩ : ByteArray), .string (⟨#[48, 48, 58, 54, 48, 58, 48, 48]⟩ : ByteArray), .int .u64 0, .int .i64 (-1), .string (⟨#[50, 48, 48, 49, 47, 48, 49, 47, 48, 49]⟩ : ByteArray), .string (⟨#[48, 48, 58, 48, 48, 58, 54, 48]⟩ : ByteArray), .int .u64 0, .int .i64 (-1), .string (⟨#[50, 48, 48, 49, 45, 48, 49, 45, 48, 49]⟩ : ByteArray), .string (⟨#[48, 48, 58, 48, 48, 58, 48, 48]⟩ : ByteArray), .int .u64 0, .int .i64 (-1), .string (⟨#[50, 48, 48, 49, 47, 49, 47, 48, 49]⟩ : ByteArray), .string (⟨#[48, 48, 58, 48, 48, 58, 48, 48]⟩ : ByteArray), .int .u64 0, .int .i64 (-1), .string (⟨#[50, 48, 48, 49, 47, 48, 49, 47, 48, 49]⟩ : ByteArray), .string (⟨#[48, 58, 48, 48, 58, 48, 48]⟩ : ByteArray), .int .u64 0, .int .i64 (-1), .string (⟨#[]⟩ : ByteArray), .string (⟨#[]⟩ : ByteArray), .int .u64 0, .int .i64 (-1)]) (ok := fun _ => True) (okp := fun _ => True) ?hr ?hp (fun _ hk => hk) trivial (Below.refl _ _) (Nat.le_refl _) (by simp) ?_; (case hd => rfl); (case hg => rfl); (case hr => first | (go_simp; done) | (go_simp; rfl)); (case hp => exact (Reps.c4 (show Kd.M k23 _ _ _ (⟨(⟨#[49, 57, 55, 48, 47, 48, 49, 47, 48, 49]⟩ : ByteArray), (⟨#[48, 48, 58, 48, 48, 58, 48, 48]⟩ : ByteArray), 0, 4⟩ : S23) [.string (⟨#[49, 57, 55, 48, 47, 48, 49, 47, 48, 49]⟩ : ByteArray), .string (⟨#[48, 48, 58, 48, 48, 58, 48, 48]⟩ : ByteArray), .int .u64 0, .int .i64 4] from (k23_mkM _ _ _ (⟨(⟨#[49, 57, 55, 48, 47, 48, 49, 47, 48, 49]⟩ : ByteArray), (⟨#[48, 48, 58, 48, 48, 58, 48, 48]⟩ : ByteArray), 0, 4⟩ : S23) )) (Reps.c4 (show Kd.M k23 _ _ _ (⟨(⟨#[49, 57, 55, 48, 47, 49, 50, 47, 51, 49]⟩ : ByteArray), (⟨#[50, 51, 58, 53, 57, 58, 53, 57]⟩ : ByteArray), 31535999, 4⟩ : S23) [.string (⟨#[49, 57, 55, 48, 47, 49, 50, 47, 51, 49]⟩ : ByteArray), .string (⟨#[50, 51, 58, 53, 57, 58, 53, 57]⟩ : ByteArray), .int .u64 31535999, .int .i64 4] from (k23_mkM _ _ _ (⟨(⟨#[49, 57, 55, 48, 47, 49, 50, 47, 51, 49]⟩ : ByteArray), (⟨#[50, 51, 58, 53, 57, 58, 53, 57]⟩ : ByteArray), 31535999, 4⟩ : S23) )) (Reps.c4 (show Kd.M k23 _ _ _ (⟨(⟨#[49, 57, 55, 50, 47, 48, 50, 47, 50, 57]⟩ : ByteArray), (⟨#[48, 48, 58, 48, 48, 58, 48, 48]⟩ : ByteArray), 68169600, 2⟩ : S23) [.string (⟨#[49, 57, 55, 50, 47, 48, 50, 47, 50, 57]⟩ : ByteArray), .string (⟨#[48, 48, 58, 48, 48, 58, 48, 48]⟩ : ByteArray), .int .u64 68169600, .int .i64 2] from (k23_mkM _ _ _ (⟨(⟨#[49, 57, 55, 50, 47, 48, 50, 47, 50, 57]⟩ : ByteArray), (⟨#[48, 48, 58, 48, 48, 58, 48, 48]⟩ : ByteArray), 68169600, 2⟩ : S23) )) (Reps.c4 (show Kd.M k23 _ _ _ (⟨(⟨#[49, 57, 57, 57, 47, 49, 50, 47, 51, 49]⟩ : ByteArray), (⟨#[50, 51, 58, 53, 57, 58, 53, 57]⟩ : ByteArray), 946684799, 5⟩ : S23) [.string (⟨#[49, 57, 57, 57, 47, 49, 50, 47, 51, 49]⟩ : ByteArray), .string (⟨#[50, 51, 58, 53, 57, 58, 53, 57]⟩ : ByteArray), .int .u64 946684799, .int .i64 5] from (k23_mkM _ _ _ (⟨(⟨#[49, 57, 57, 57, 47, 49, 50, 47, 51, 49]⟩ : ByteArray), (⟨#[50, 51, 58, 53, 57, 58, 53, 57]⟩ : ByteArray), 946684799, 5⟩ : S23) )) (Reps.c4 (show Kd.M k23 _ _ _ (⟨(⟨#[50, 48, 48, 48, 47, 48, 49, 47, 48, 49]⟩ : ByteArray), (⟨#[48, 48, 58, 48, 48, 58, 48, 48]⟩ : ByteArray), 946684800, 6⟩ : S23) [.string (⟨#[50, 48, 48, 48, 47, 48, 49, 47, 48, 49]⟩ : ByteArray), .string (⟨#[48, 48, 58, 48, 48, 58, 48, 48]⟩ : ByteArray), .int .u64 946684800, .int .i64 6] from (k23_mkM _ _ _ (⟨(⟨#[50, 48, 48, 48, 47, 48, 49, 47, 48, 49]⟩ : ByteArray), (⟨#[48, 48, 58, 48, 48, 58, 48, 48]⟩ : ByteArray), 946684800, 6⟩ : S23) )) (Reps.c4 (show Kd.M k23 _ _ _ (⟨(⟨#[50, 48, 48, 48, 47, 48, 50, 47, 50, 57]⟩ : ByteArray), (⟨#[49, 50, 58, 48, 48, 58, 48, 48]⟩ : ByteArray), 951825600, 2⟩ : S23) [.string (⟨#[50, 48, 48, 48, 47, 48, 50, 47, 50, 57]⟩ : ByteArray), .string (⟨#[49, 50, 58, 48, 48, 58, 48, 48]⟩ : ByteArray), .int .u64 951825600, .int .i64 2] from (k23_mkM _ _ _ (⟨(⟨#[50, 48, 48, 48, 47, 48, 50, 47, 50, 57]⟩ : ByteArray), (⟨#[49, 50, 58, 48, 48, 58, 48, 48]⟩ : ByteArray), 951825600, 2⟩ : S23) )) (Reps.c4 (show Kd.M k23 _ _ _ (⟨(⟨#[50, 48, 48, 49, 47, 48, 57, 47, 48, 57]⟩ : ByteArray), (⟨#[48, 49, 58, 52, 54, 58, 52, 48]⟩ : ByteArray), 1000000000, 0⟩ : S23) [.string (⟨#[50, 48, 48, 49, 47, 48, 57, 47, 48, 57]⟩ : ByteArray), .string (⟨#[48, 49, 58, 52, 54, 58, 52, 48]⟩ : ByteArray), .int .u64 1000000000, .int .i64 0] from (k23_mkM _ _ _ (⟨(⟨#[50, 48, 48, 49, 47, 48, 57, 47, 48, 57]⟩ : ByteArray), (⟨#[48, 49, 58, 52, 54, 58, 52, 48]⟩ : ByteArray), 1000000000, 0⟩ : S23) )) (Reps.c4 (show Kd.M k23 _ _ _ (⟨(⟨#[50, 48, 51, 56, 47, 48, 49, 47, 49, 57]⟩ : ByteArray), (⟨#[48, 51, 58, 49, 52, 58, 48, 56]⟩ : ByteArray), 2147483648, 2⟩ : S23) [.string (⟨#[50, 48, 51, 56, 47, 48, 49, 47, 49, 57]⟩ : ByteArray), .string (⟨#[48, 51, 58, 49, 52, 58, 48, 56]⟩ : ByteArray), .int .u64 2147483648, .int .i64 2] from (k23_mkM _ _ _ (⟨(⟨#[50, 48, 51, 56, 47, 48, 49, 47, 49, 57]⟩ : ByteArray), (⟨#[48, 51, 58, 49, 52, 58, 48, 56]⟩ : ByteArray), 2147483648, 2⟩ : S23) )) (Reps.c4 (show Kd.M k23 _ _ _ (⟨(⟨#[50, 49, 48, 48, 47, 48, 51, 47, 48, 49]⟩ : ByteArray), (⟨#[48, 48, 58, 48, 48, 58, 48, 48]⟩ : ByteArray), 4107542400, 1⟩ : S23) [.string (⟨#[50, 49, 48, 48, 47, 48, 51, 47, 48, 49]⟩ : ByteArray), .string (⟨#[48, 48, 58, 48, 48, 58, 48, 48]⟩ : ByteArray), .int .u64 4107542400, .int .i64 1] from (k23_mkM _ _ _ (⟨(⟨#[50, 49, 48, 48, 47, 48, 51, 47, 48, 49]⟩ : ByteArray), (⟨#[48, 48, 58, 48, 48, 58, 48, 48]⟩ : ByteArray), 4107542400, 1⟩ : S23) )) (Reps.c4 (show Kd.M k23 _ _ _ (⟨(⟨#[57, 57, 57, 57, 47, 49, 50, 47, 51, 49]⟩ : ByteArray), (⟨#[50, 51, 58, 53, 57, 58, 53, 57]⟩ : ByteArray), 253402300799, 5⟩ : S23) [.string (⟨#[57, 57, 57, 57, 47, 49, 50, 47, 51, 49]⟩ : ByteArray), .string (⟨#[50, 51, 58, 53, 57, 58, 53, 57]⟩ : ByteArray), .int .u64 253402300799, .int .i64 5] from (k23_mkM _ _ _ (⟨(⟨#[57, 57, 57, 57, 47, 49, 50, 47, 51, 49]⟩ : ByteArray), (⟨#[50, 51, 58, 53, 57, 58, 53, 57]⟩ : ByteArray), 253402300799, 5⟩ : S23) )) (Reps.c4 (show Kd.M k23 _ _ _ (⟨(⟨#[49, 57, 54, 57, 47, 49, 50, 47, 51, 49]⟩ : ByteArray), (⟨#[50, 51, 58, 53, 57, 58, 53, 57]⟩ : ByteArray), 0, (-1)⟩ : S23) [.string (⟨#[49, 57, 54, 57, 47, 49, 50, 47, 51, 49]⟩ : ByteArray), .string (⟨#[50, 51, 58, 53, 57, 58, 53, 57]⟩ : ByteArray), .int .u64 0, .int .i64 (-1)] from (k23_mkM _ _ _ (⟨(⟨#[49, 57, 54, 57, 47, 49, 50, 47, 51, 49]⟩ : ByteArray), (⟨#[50, 51, 58, 53, 57, 58, 53, 57]⟩ : ByteArray), 0, (-1)⟩ : S23) )) (Reps.c4 (show Kd.M k23 _ _ _ (⟨(⟨#[50, 49, 48, 48, 47, 48, 50, 47, 50, 57]⟩ : ByteArray), (⟨#[48, 48, 58, 48, 48, 58, 48, 48]⟩ : ByteArray), 0, (-1)⟩ : S23) [.string (⟨#[50, 49, 48, 48, 47, 48, 50, 47, 50, 57]⟩ : ByteArray), .string (⟨#[48, 48, 58, 48, 48, 58, 48, 48]⟩ : ByteArray), .int .u64 0, .int .i64 (-1)] from (k23_mkM _ _ _ (⟨(⟨#[50, 49, 48, 48, 47, 48, 50, 47, 50, 57]⟩ : ByteArray), (⟨#[48, 48, 58, 48, 48, 58, 48, 48]⟩ : ByteArray), 0, (-1)⟩ : S23) )) (Reps.c4 (show Kd.M k23 _ _ _ (⟨(⟨#[50, 48, 48, 49, 47, 48, 50, 47, 50, 57]⟩ : ByteArray), (⟨#[48, 48, 58, 48, 48, 58, 48, 48]⟩ : ByteArray), 0, (-1)⟩ : S23) [.string (⟨#[50, 48, 48, 49, 47, 48, 50, 47, 50, 57]⟩ : ByteArray), .string (⟨#[48, 48, 58, 48, 48, 58, 48, 48]⟩ : ByteArray), .int .u64 0, .int .i64 (-1)] from (k23_mkM _ _ _ (⟨(⟨#[50, 48, 48, 49, 47, 48, 50, 47, 50, 57]⟩ : ByteArray), (⟨#[48, 48, 58, 48, 48, 58, 48, 48]⟩ : ByteArray), 0, (-1)⟩ : S23) )) (Reps.c4 (show Kd.M k23 _ _ _ (⟨(⟨#[50, 48, 48, 49, 47, 48, 48, 47, 48, 49]⟩ : ByteArray), (⟨#[48, 48, 58, 48, 48, 58, 48, 48]⟩ : ByteArray), 0, (-1)⟩ : S23) [.string (⟨#[50, 48, 48, 49, 47, 48, 48, 47, 48, 49]⟩ : ByteArray), .string (⟨#[48, 48, 58, 48, 48, 58, 48, 48]⟩ : ByteArray), .int .u64 0, .int .i64 (-1)] from (k23_mkM _ _ _ (⟨(⟨#[50, 48, 48, 49, 47, 48, 48, 47, 48, 49]⟩ : ByteArray), (⟨#[48, 48, 58, 48, 48, 58, 48, 48]⟩ : ByteArray), 0, (-1)⟩ : S23) )) (Reps.c4 (show Kd.M k23 _ _ _ (⟨(⟨#[50, 48, 48, 49, 47, 49, 51, 47, 48, 49]⟩ : ByteArray), (⟨#[48, 48, 58, 48, 48, 58, 48, 48]⟩ : ByteArray), 0, (-1)⟩ : S23) [.string (⟨#[50, 48, 48, 49, 47, 49, 51, 47, 48, 49]⟩ : ByteArray), .string (⟨#[48, 48, 58, 48, 48, 58, 48, 48]⟩ : ByteArray), .int .u64 0, .int .i64 (-1)] from (k23_mkM _ _ _ (⟨(⟨#[50, 48, 48, 49, 47, 49, 51, 47, 48, 49]⟩ : ByteArray), (⟨#[48, 48, 58, 48, 48, 58, 48, 48]⟩ : ByteArray), 0, (-1)⟩ : S23) )) (Reps.c4 (show Kd.M k23 _ _ _ (⟨(⟨#[50, 48, 48, 49, 47, 48, 52, 47, 51, 49]⟩ : ByteArray), (⟨#[48, 48, 58, 48, 48, 58, 48, 48]⟩ : ByteArray), 0, (-1)⟩ : S23) [.string (⟨#[50, 48, 48, 49, 47, 48, 52, 47, 51, 49]⟩ : ByteArray), .string (⟨#[48, 48, 58, 48, 48, 58, 48, 48]⟩ : ByteArray), .int .u64 0, .int .i64 (-1)] from (k23_mkM _ _ _ (⟨(⟨#[50, 48, 48, 49, 47, 48, 52, 47, 51, 49]⟩ : ByteArray), (⟨#[48, 48, 58, 48, 48, 58, 48, 48]⟩ : ByteArray), 0, (-1)⟩ : S23) )) (Reps.c4 (show Kd.M k23 _ _ _ (⟨(⟨#[50, 48, 48, 49, 47, 48, 49, 47, 48, 48]⟩ : ByteArray), (⟨#[48, 48, 58, 48, 48, 58, 48, 48]⟩ : ByteArray), 0, (-1)⟩ : S23) [.string (⟨#[50, 48, 48, 49, 47, 48, 49, 47, 48, 48]⟩ : ByteArray), .string (⟨#[48, 48, 58, 48, 48, 58, 48, 48]⟩ : ByteArray), .int .u64 0, .int .i64 (-1)] from (k23_mkM _ _ _ (⟨(⟨#[50, 48, 48, 49, 47, 48, 49, 47, 48, 48]⟩ : ByteArray), (⟨#[48, 48, 58, 48, 48, 58, 48, 48]⟩ : ByteArray), 0, (-1)⟩ : S23) )) (Reps.c4 (show Kd.M k23 _ _ _ (⟨(⟨#[50, 48, 48, 49, 47, 48, 49, 47, 48, 49]⟩ : ByteArray), (⟨#[50, 52, 58, 48, 48, 58, 48, 48]⟩ : ByteArray), 0, (-1)⟩ : S23) [.string (⟨#[50, 48, 48, 49, 47, 48, 49, 47, 48, 49]⟩ : ByteArray), .string (⟨#[50, 52, 58, 48, 48, 58, 48, 48]⟩ : ByteArray), .int .u64 0, .int .i64 (-1)] from (k23_mkM _ _ _ (⟨(⟨#[50, 48, 48, 49, 47, 48, 49, 47, 48, 49]⟩ : ByteArray), (⟨#[50, 52, 58, 48, 48, 58, 48, 48]⟩ : ByteArray), 0, (-1)⟩ : S23) )) (Reps.c4 (show Kd.M k23 _ _ _ (⟨(⟨#[50, 48, 48, 49, 47, 48, 49, 47, 48, 49]⟩ : ByteArray), (⟨#[48, 48, 58, 54, 48, 58, 48, 48]⟩ : ByteArray), 0, (-1)⟩ : S23) [.string (⟨#[50, 48, 48, 49, 47, 48, 49, 47, 48, 49]⟩ : ByteArray), .string (⟨#[48, 48, 58, 54, 48, 58, 48, 48]⟩ : ByteArray), .int .u64 0, .int .i64 (-1)] from (k23_mkM _ _ _ (⟨(⟨#[50, 48, 48, 49, 47, 48, 49, 47, 48, 49]⟩ : ByteArray), (⟨#[48, 48, 58, 54, 48, 58, 48, 48]⟩ : ByteArray), 0, (-1)⟩ : S23) )) (Reps.c4 (show Kd.M k23 _ _ _ (⟨(⟨#[50, 48, 48, 49, 47, 48, 49, 47, 48, 49]⟩ : ByteArray), (⟨#[48, 48, 58, 48, 48, 58, 54, 48]⟩ : ByteArray), 0, (-1)⟩ : S23) [.string (⟨#[50, 48, 48, 49, 47, 48, 49, 47, 48, 49]⟩ : ByteArray), .string (⟨#[48, 48, 58, 48, 48, 58, 54, 48]⟩ : ByteArray), .int .u64 0, .int .i64 (-1)] from (k23_mkM _ _ _ (⟨(⟨#[50, 48, 48, 49, 47, 48, 49, 47, 48, 49]⟩ : ByteArray), (⟨#[48, 48, 58, 48, 48, 58, 54, 48]⟩ : ByteArray), 0, (-1)⟩ : S23) )) (Reps.c4 (show Kd.M k23 _ _ _ (⟨(⟨#[50, 48, 48, 49, 45, 48, 49, 45, 48, 49]⟩ : ByteArray), (⟨#[48, 48, 58, 48, 48, 58, 48, 48]⟩ : ByteArray), 0, (-1)⟩ : S23) [.string (⟨#[50, 48, 48, 49, 45, 48, 49, 45, 48, 49]⟩ : ByteArray), .string (⟨#[48, 48, 58, 48, 48, 58, 48, 48]⟩ : ByteArray), .int .u64 0, .int .i64 (-1)] from (k23_mkM _ _ _ (⟨(⟨#[50, 48, 48, 49, 45, 48, 49, 45, 48, 49]⟩ : ByteArray), (⟨#[48, 48, 58, 48, 48, 58, 48, 48]⟩ : ByteArray), 0, (-1)⟩ : S23) )) (Reps.c4 (show Kd.M k23 _ _ _ (⟨(⟨#[50, 48, 48, 49, 47, 49, 47, 48, 49]⟩ : ByteArray), (⟨#[48, 48, 58, 48, 48, 58, 48, 48]⟩ : ByteArray), 0, (-1)⟩ : S23) [.string (⟨#[50, 48, 48, 49, 47, 49, 47, 48, 49]⟩ : ByteArray), .string (⟨#[48, 48, 58, 48, 48, 58, 48, 48]⟩ : ByteArray), .int .u64 0, .int .i64 (-1)] from (k23_mkM _ _ _ (⟨(⟨#[50, 48, 48, 49, 47, 49, 47, 48, 49]⟩ : ByteArray), (⟨#[48, 48, 58, 48, 48, 58, 48, 48]⟩ : ByteArray), 0, (-1)⟩ : S23) )) (Reps.c4 (show Kd.M k23 _ _ _ (⟨(⟨#[50, 48, 48, 49, 47, 48, 49, 47, 48, 49]⟩ : ByteArray), (⟨#[48, 58, 48, 48, 58, 48, 48]⟩ : ByteArray), 0, (-1)⟩ : S23) [.string (⟨#[50, 48, 48, 49, 47, 48, 49, 47, 48, 49]⟩ : ByteArray), .string (⟨#[48, 58, 48, 48, 58, 48, 48]⟩ : ByteArray), .int .u64 0, .int .i64 (-1)] from (k23_mkM _ _ _ (⟨(⟨#[50, 48, 48, 49, 47, 48, 49, 47, 48, 49]⟩ : ByteArray), (⟨#[48, 58, 48, 48, 58, 48, 48]⟩ : ByteArray), 0, (-1)⟩ : S23) )) (Reps.c4 (show Kd.M k23 _ _ _ (⟨(⟨#[]⟩ : ByteArray), (⟨#[]⟩ : ByteArray), 0, (-1)⟩ : S23) [.string (⟨#[]⟩ : ByteArray), .string (⟨#[]⟩ : ByteArray), .int .u64 0, .int .i64 (-1)] from (k23_mkM _ _ _ (⟨(⟨#[]⟩ : ByteArray), (⟨#[]⟩ : ByteArray), 0, (-1)⟩ : S23) )) (Reps.none _ _)))))))))))))))))))))))))); intro v157 w8 ho9 hb hg_ hnew_; clear hg_ hnew_; (first | rw [← Ny156.out] at ho9 | (simp only [Int.reduceToNat] at ho9; rw [← Ny156.out] at ho9)); have n0_ := Aside0.mk (Kd.R_lower ho9 (below_size (by repeat (first | (with_reducible first | exact HB.out | apply below_alloc | apply pw_below_drewN | apply below_drew1) | exact HB.out)))); have n1_ := Aside0.mk (below_step (by repeat (first | (with_reducible first | exact HB.out | apply below_alloc | apply pw_below_drewN | apply below_drew1) | exact HB.out)) hb); clear HB; have HO158 := n0_; have HB := n1_; clear n0_ n1_; clear hb ho9; obtain ⟨Ao10, co10, eo10⟩ := Kd.R_slice HO158.out; subst eo10; have p159 : 0 ≤ ((ji3) : Int) := of_decide_eq_true (by first | (with_reducible assumption) | assumption); have q159 : (ji3) < (y156.length : Int) := of_decide_eq_true (by first | (with_reducible assumption) | assumption); obtain ⟨ad159, e159, hx159_0, hx159_1, hx159_2, hx159_3⟩ := at_T23 (Kd.R_reads' HO158.out).2.2 (ji3) p159 q159; cases e159; replace p159 := eq_true p159; replace q159 := eq_true q159) | ((with_reducible refine gate_dst (N := 4) rfl ?_); refine box_event ?hg (N := 4) ?hd (cs := #[.string (⟨#[]⟩ : ByteArray), .string (⟨#[]⟩ : ByteArray), .int .u64 0, .int .i64 0]) (t := 23) ?hr ?_; (case hd => rfl); (case hg => rfl); (case hr => first | (go_simp; done) | (go_simp; rfl)); intro gb160 hg w11 hbox hb; have n0_ := Aside0.mk (Kd.R_below (Kd.R_elderB (by (with_reducible repeat (first | apply Kd.R_alloc | apply Kd.R_drewN | apply Kd.R_drew)); exact HO158.out) gb160 (Nat.le_of_eq hg.symm)) hb); have n1_ := Aside0.mk (below_step (by repeat (first | (with_reducible first | exact HB.out | apply below_alloc | apply pw_below_drewN | apply below_drew1) | exact HB.out)) hb); have n2_ := Aside0.mk (hbox); have n3_ := Aside0.mk ((by rw [hg]; exact (below_size (by repeat (first | (with_reducible first | exact HB.out | apply below_alloc | apply pw_below_drewN | apply below_drew1) | exact HB.out))) : w.heap.size ≤ gb160)); have n4_ := Aside0.mk ((by rw [hg]; exact (below_size (by repeat (first | (with_reducible first | exact HB.out | apply below_alloc | apply pw_below_drewN | apply below_drew1) | exact HB.out))) : w.heap.size ≤ gb160)); clear HO158; clear HB; have HO158 := n0_; have HB := n1_; have BK160 := n2_; have GW160 := n3_; have GE160 := n4_; clear n0_ n1_ n2_ n3_ n4_; clear hb hbox hg; have hcz12_0 : w11.cell? ⟨gb160, 0, none⟩ = some (.string (⟨#[]⟩ : ByteArray)) := (blk_cell BK160.out 0).trans rfl; have hcz12_1 : w11.cell? ⟨gb160, 1, none⟩ = some (.string (⟨#[]⟩ : ByteArray)) := (blk_cell BK160.out 1).trans rfl; have hcz12_2 : w11.cell? ⟨gb160, 2, none⟩ = some (.int .u64 0) := (blk_cell BK160.out 2).trans rfl; have hcz12_3 : w11.cell? ⟨gb160, 3, none⟩ = some (.int .i64 0) := (blk_cell BK160.out 3).trans rfl; have hfz12_0 := blk_frozen BK160.out 0; have hfz12_1 := blk_frozen BK160.out 1; have hfz12_2 := blk_frozen BK160.out 2; have hfz12_3 := blk_frozen BK160.out 3) | ((with_reducible refine gate_callee (f := 15) rfl ?_); refine goesL_ (some 48) rfl rfl Tryd.func15 (by kernel_rfl) rfl #[.string ((rd_T23 y156 (ji3)).f0), .string ((rd_T23 y156 (ji3)).f1)] rfl (by (try simp only [List.map_toArray, List.map_cons, List.map_nil]); first | done | (simp only [hji3]; rfl) | rfl | (simp only [List.length_drop, List.length_take]; rfl)) ?_; (with_reducible refine (date_Parse.calls k ((rd_T23 y156 (ji3)).f0) ((rd_T23 y156 (ji3)).f1) t161 t162 _ A6.out).mono ?_); rintro e w13 ⟨rfl, hb⟩; refine ⟨_, rfl, ?_⟩; have n0_ := Aside0.mk (Kd.R_below (by (with_reducible repeat (first | apply Kd.R_alloc | apply Kd.R_drewN | apply Kd.R_drew)); exact (Kd.R_mono (Kd.R_far (p := ⟨gb160, 3, none⟩) (Kd.R_far (p := ⟨gb160, 2, none⟩) (Kd.R_far (p := ⟨gb160, 1, none⟩) (Kd.R_far (p := ⟨gb160, 0, none⟩) (Kd.R_mono HO158.out (fun k_ hk => (⟨hk, hk.2⟩ : _ ∧ k_ ≠ gb160))) (fun _ hk => hk.2) (.string ((rd_T23 y156 (ji3)).f0))) (fun _ hk => hk.2) (.string ((rd_T23 y156 (ji3)).f1))) (fun _ hk => hk.2) (.int .u64 ((rd_T23 y156 (ji3)).f2))) (fun _ hk => hk.2) (.int .i64 ((rd_T23 y156 (ji3)).f3))) (fun _ h_ => h_.1))) hb); have n1_ := Aside0.mk (blk_below (g := gb160) (o := .cells #[.string ((rd_T23 y156 (ji3)).f0), .string ((rd_T23 y156 (ji3)).f1), .int .u64 ((rd_T23 y156 (ji3)).f2), .int .i64 ((rd_T23 y156 (ji3)).f3)] 23 (0, 0)) (by (with_reducible repeat (first | refine blk_drewN ?_ _ | refine blk_drew ?_ | refine blk_alloc ?_ _)); refine blk_put (cs := #[.string ((rd_T23 y156 (ji3)).f0), .string ((rd_T23 y156 (ji3)).f1), .int .u64 ((rd_T23 y156 (ji3)).f2), .int .i64 0]) ?_ 3 _ rfl; (with_reducible repeat (first | refine blk_drewN ?_ _ | refine blk_drew ?_ | refine blk_alloc ?_ _)); refine blk_put (cs := #[.string ((rd_T23 y156 (ji3)).f0), .string ((rd_T23 y156 (ji3)).f1), .int .u64 0, .int .i64 0]) ?_ 2 _ rfl; (with_reducible repeat (first | refine blk_drewN ?_ _ | refine blk_drew ?_ | refine blk_alloc ?_ _)); refine blk_put (cs := #[.string ((rd_T23 y156 (ji3)).f0), .string (⟨#[]⟩ : ByteArray), .int .u64 0, .int .i64 0]) ?_ 1 _ rfl; (with_reducible repeat (first | refine blk_drewN ?_ _ | refine blk_drew ?_ | refine blk_alloc ?_ _)); refine blk_put (cs := #[.string (⟨#[]⟩ : ByteArray), .string (⟨#[]⟩ : ByteArray), .int .u64 0, .int .i64 0]) ?_ 0 _ rfl; (with_reducible repeat (first | refine blk_drewN ?_ _ | refine blk_drew ?_ | refine blk_alloc ?_ _)); exact BK160.out) hb); have n2_ := Aside0.mk (below_step (by repeat (first | (with_reducible first | exact HB.out | apply below_alloc | apply pw_below_drewN | apply below_drew1 | refine below_set ?_ GE160.out) | exact HB.out)) hb); clear HO158; clear BK160; clear HB; have HO158 := n0_; have BK160 := n1_; have HB := n2_; clear n0_ n1_ n2_; (try clear hb); (try clear hb2); (try clear hk); (try clear hi)))
        (try simp only [Act.put, List.setIfInBounds_toArray, List.set_cons_zero, List.set_cons_succ])
        go_cut [61] (fun v61 wc => ∃ (kq : Nat) (x61_6 : Bool), v61 = .bool x61_6 ∧ Aside0 (glebelaw6_DateForms.j0 kq t161 t162 x61_6 ((rd_T23 y156 (ji3)).f0) ((rd_T23 y156 (ji3)).f1) ((rd_T23 y156 (ji3)).f2) ((rd_T23 y156 (ji3)).f3) = some r) ∧ Aside0 (kq ≤ k) ∧ Aside0 (wc.heap[gb160]? = some (.cells #[.string ((rd_T23 y156 (ji3)).f0), .string ((rd_T23 y156 (ji3)).f1), .int .u64 ((rd_T23 y156 (ji3)).f2), .int .i64 ((rd_T23 y156 (ji3)).f3)] 23 (0, 0))) ∧ Aside0 (Below w.heap.size w wc))
        case first =>
          have H := HC7.out
          clear HC7
          by_cases c14 : t161 = ((rd_T23 y156 (ji3)).f2)
          · rw [if_pos c14] at H
            have c14b0 : (t161 == ((rd_T23 y156 (ji3)).f2)) = true := beq_iff_eq.mpr c14
            have c14b1 : (t161 != ((rd_T23 y156 (ji3)).f2)) = false := bne_eq_false_iff_eq.mpr c14
            clear c14
            (first | rw [c14b0] | (simp only [i64_w, i32_w]; rw [c14b0]) | skip)
            have H' := Aside0.mk H
            clear H
            have hcz15_0 : w13.cell? ⟨gb160, 0, none⟩ = some (.string ((rd_T23 y156 (ji3)).f0)) := (blk_cell BK160.out 0).trans rfl
            have hcz15_1 : w13.cell? ⟨gb160, 1, none⟩ = some (.string ((rd_T23 y156 (ji3)).f1)) := (blk_cell BK160.out 1).trans rfl
            have hcz15_2 : w13.cell? ⟨gb160, 2, none⟩ = some (.int .u64 ((rd_T23 y156 (ji3)).f2)) := (blk_cell BK160.out 2).trans rfl
            have hcz15_3 : w13.cell? ⟨gb160, 3, none⟩ = some (.int .i64 ((rd_T23 y156 (ji3)).f3)) := (blk_cell BK160.out 3).trans rfl
            have hfz15_0 := blk_frozen BK160.out 0
            have hfz15_1 := blk_frozen BK160.out 1
            have hfz15_2 := blk_frozen BK160.out 2
            have hfz15_3 := blk_frozen BK160.out 3
            go_wp2
            go_meet
            case rel => exact ⟨_, ((t162 != (decide (((rd_T23 y156 (ji3)).f3) ≥ 0)))), (by first | rfl | (simp; done) | (simp only [← hji3] <;> (first | rfl | simp)) | (simp [*]; done)), H', ⟨by first | omega | exact Nat.le_refl _⟩, ⟨by (with_reducible repeat (first | refine blk_drewN ?_ _ | refine blk_drew ?_ | refine blk_alloc ?_ _)); exact BK160.out⟩, ⟨by repeat (first | (with_reducible first | exact HB.out | apply below_alloc | apply pw_below_drewN | apply below_drew1 | refine below_set ?_ GE160.out) | exact HB.out)⟩⟩
          · rw [if_neg c14] at H
            have c14b0 : (t161 == ((rd_T23 y156 (ji3)).f2)) = false := beq_eq_false_iff_ne.mpr c14
            have c14b1 : (t161 != ((rd_T23 y156 (ji3)).f2)) = true := bne_iff_ne.mpr c14
            (first | rw [c14b0] | (simp only [i64_w, i32_w]; rw [c14b0]) | skip)
            have H' := Aside0.mk H
            clear H
            have hcz16_0 : w13.cell? ⟨gb160, 0, none⟩ = some (.string ((rd_T23 y156 (ji3)).f0)) := (blk_cell BK160.out 0).trans rfl
            have hcz16_1 : w13.cell? ⟨gb160, 1, none⟩ = some (.string ((rd_T23 y156 (ji3)).f1)) := (blk_cell BK160.out 1).trans rfl
            have hcz16_2 : w13.cell? ⟨gb160, 2, none⟩ = some (.int .u64 ((rd_T23 y156 (ji3)).f2)) := (blk_cell BK160.out 2).trans rfl
            have hcz16_3 : w13.cell? ⟨gb160, 3, none⟩ = some (.int .i64 ((rd_T23 y156 (ji3)).f3)) := (blk_cell BK160.out 3).trans rfl
            have hfz16_0 := blk_frozen BK160.out 0
            have hfz16_1 := blk_frozen BK160.out 1
            have hfz16_2 := blk_frozen BK160.out 2
            have hfz16_3 := blk_frozen BK160.out 3
            go_wp2
            go_meet
            case rel => exact ⟨_, (true), (by first | rfl | (simp only [i64_w]; done) | (simp; done) | (simp [*]; done)), H', ⟨by first | omega | exact Nat.le_refl _⟩, ⟨by (with_reducible repeat (first | refine blk_drewN ?_ _ | refine blk_drew ?_ | refine blk_alloc ?_ _)); exact BK160.out⟩, ⟨by repeat (first | (with_reducible first | exact HB.out | apply below_alloc | apply pw_below_drewN | apply below_drew1 | refine below_set ?_ GE160.out) | exact HB.out)⟩⟩
        case rest =>
          clear HC7
          try clear c1
          try clear p1
          try clear q1
          try clear hx1
          try clear c2
          try clear c2b0
          try clear c2b1
          try clear c2b2
          try clear p2
          try clear c3
          try clear c4
          try clear c4b0
          try clear c5
          try clear c5b0
          try clear c14
          try clear c14b0
          try clear c14b1
          try clear c15
          try clear p15
          try clear q15
          try clear hx15
          try clear hcz12_0
          try clear hcz12_1
          try clear hcz12_2
          try clear hcz12_3
          try clear hcz15_0
          try clear hcz15_1
          try clear hcz15_2
          try clear hcz15_3
          try clear hcz16_0
          try clear hcz16_1
          try clear hcz16_2
          try clear hcz16_3
          try clear hfz12_0
          try clear hfz12_1
          try clear hfz12_2
          try clear hfz12_3
          try clear hfz15_0
          try clear hfz15_1
          try clear hfz15_2
          try clear hfz15_3
          try clear hfz16_0
          try clear hfz16_1
          try clear hfz16_2
          try clear hfz16_3
          try clear hx159_0
          try clear hx159_1
          try clear hx159_2
          try clear hx159_3
          try clear p159
          try clear q159
          obtain ⟨kq, x61_6, rfl, HA, HJ6, BK160, HB⟩ := hcut
          cases kq with
          | zero => exact absurd HA.out (by simp [glebelaw6_DateForms.j0])
          | succ kj6 =>
            have H := HA.out
            clear HA
            simp only [glebelaw6_DateForms.j0] at H
            by_cases c17 : x61_6 = true
            · subst c17
              have H1 : (none) = some r := by rw [if_pos rfl] at H; exact H
              clear H
              have H := H1
              clear H1
              exact absurd H (by simp)
            · replace c17 := Bool.eq_false_iff.mpr c17
              subst c17
              have H1 : (if t162 = true then ((date_Print.f kj6 t161).bind fun bt163 => (if bt163.2.2 = true then (if bt163.1.toList = ((rd_T23 y156 (ji3)).f0).toList then (if bt163.2.1.toList = ((rd_T23 y156 (ji3)).f1).toList then ((date_Week.f t161).bind fun t166 => (if t166 = ((rd_T23 y156 (ji3)).f3) then ((glebelaw6_awake.f kj6).bind fun t167 => (some t167)) else (none))) else (none)) else (none)) else (none))) else ((glebelaw6_awake.f kj6).bind fun t168 => (some t168))) = some r := by rw [if_neg (show ¬ (false = true) by decide)] at H; exact H
              clear H
              have H := H1
              clear H1
              by_cases c18 : t162 = true
              · subst c18
                have H1 : ((date_Print.f kj6 t161).bind fun bt163 => (if bt163.2.2 = true then (if bt163.1.toList = ((rd_T23 y156 (ji3)).f0).toList then (if bt163.2.1.toList = ((rd_T23 y156 (ji3)).f1).toList then ((date_Week.f t161).bind fun t166 => (if t166 = ((rd_T23 y156 (ji3)).f3) then ((glebelaw6_awake.f kj6).bind fun t167 => (some t167)) else (none))) else (none)) else (none)) else (none))) = some r := by rw [if_pos rfl] at H; exact H
                clear H
                have H := H1
                clear H1
                replace H := Option.bind_eq_some_iff.mp H
                obtain ⟨⟨t163, t164, t165⟩, A190, H⟩ := H
                replace H : (if t165 = true then (if t163.toList = ((rd_T23 y156 (ji3)).f0).toList then (if t164.toList = ((rd_T23 y156 (ji3)).f1).toList then ((date_Week.f t161).bind fun t166 => (if t166 = ((rd_T23 y156 (ji3)).f3) then ((glebelaw6_awake.f kj6).bind fun t167 => (some t167)) else (none))) else (none)) else (none)) else (none)) = some r := H
                have A19 := Aside0.mk A190
                clear A190
                by_cases c20 : t165 = true
                · subst c20
                  have H1 : (if t163.toList = ((rd_T23 y156 (ji3)).f0).toList then (if t164.toList = ((rd_T23 y156 (ji3)).f1).toList then ((date_Week.f t161).bind fun t166 => (if t166 = ((rd_T23 y156 (ji3)).f3) then ((glebelaw6_awake.f kj6).bind fun t167 => (some t167)) else (none))) else (none)) else (none)) = some r := by rw [if_pos rfl] at H; exact H
                  clear H
                  have H := H1
                  clear H1
                  by_cases c21 : t163.toList = ((rd_T23 y156 (ji3)).f0).toList
                  · rw [if_pos c21] at H
                    have c21b0 : (t163.toList == ((rd_T23 y156 (ji3)).f0).toList) = true := beq_iff_eq.mpr c21
                    have c21b1 : (t163.toList != ((rd_T23 y156 (ji3)).f0).toList) = false := bne_eq_false_iff_eq.mpr c21
                    clear c21
                    by_cases c22 : t164.toList = ((rd_T23 y156 (ji3)).f1).toList
                    · rw [if_pos c22] at H
                      have c22b0 : (t164.toList == ((rd_T23 y156 (ji3)).f1).toList) = true := beq_iff_eq.mpr c22
                      have c22b1 : (t164.toList != ((rd_T23 y156 (ji3)).f1).toList) = false := bne_eq_false_iff_eq.mpr c22
                      clear c22
                      replace H := Option.bind_eq_some_iff.mp H
                      obtain ⟨t166, A230, H⟩ := H
                      replace H : (if t166 = ((rd_T23 y156 (ji3)).f3) then ((glebelaw6_awake.f kj6).bind fun t167 => (some t167)) else (none)) = some r := H
                      have A23 := Aside0.mk A230
                      clear A230
                      by_cases c24 : t166 = ((rd_T23 y156 (ji3)).f3)
                      · rw [if_pos c24] at H
                        have c24b0 : (t166 == ((rd_T23 y156 (ji3)).f3)) = true := beq_iff_eq.mpr c24
                        have c24b1 : (t166 != ((rd_T23 y156 (ji3)).f3)) = false := bne_eq_false_iff_eq.mpr c24
                        clear c24
                        replace H := Option.bind_eq_some_iff.mp H
                        obtain ⟨t167, A250, H⟩ := H
                        replace H : (some t167) = some r := H
                        have A25 := Aside0.mk A250
                        clear A250
                        obtain rfl := Option.some.inj H
                        try go_wp2_with (first | ((with_reducible refine gate_callee (f := 17) rfl ?_); refine goesL_ (some 67) rfl rfl Tryd.func17 (by kernel_rfl) rfl #[.int .u64 t161] rfl (by (try simp only [List.map_toArray, List.map_cons, List.map_nil]); first | done | rfl | (simp only [List.length_drop, List.length_take]; rfl)) ?_; (with_reducible refine (date_Print.calls kj6 t161 t163 t164 true _ ?side1 A19.out).mono ?_); (case side1 => exact XT.Tabs.below hTab (by repeat (first | (with_reducible first | exact HB.out | apply below_alloc | apply pw_below_drewN | apply below_drew1 | refine below_set ?_ GE160.out) | exact HB.out))); rintro e w26 ⟨rfl, hb⟩; refine ⟨_, rfl, ?_⟩; have n0_ := Aside0.mk (blk_below (g := gb160) (o := .cells #[.string ((rd_T23 y156 (ji3)).f0), .string ((rd_T23 y156 (ji3)).f1), .int .u64 ((rd_T23 y156 (ji3)).f2), .int .i64 ((rd_T23 y156 (ji3)).f3)] 23 (0, 0)) (by (with_reducible repeat (first | refine blk_drewN ?_ _ | refine blk_drew ?_ | refine blk_alloc ?_ _)); exact BK160.out) hb); have n1_ := Aside0.mk (below_step (by repeat (first | (with_reducible first | exact HB.out | apply below_alloc | apply pw_below_drewN | apply below_drew1 | refine below_set ?_ GE160.out) | exact HB.out)) hb); clear BK160; clear HB; have BK160 := n0_; have HB := n1_; clear n0_ n1_; (try clear hb); (try clear hb2); (try clear hk); (try clear hi)))
                        have n0_ := Aside0.mk (blk_drew BK160.out)
                        have n1_ := Aside0.mk (below_drew1 HB.out)
                        clear BK160
                        clear HB
                        have BK160 := n0_
                        have HB := n1_
                        clear n0_ n1_
                        refine start_ (n := 24) (S := fun w' => w'.cell? ⟨gb160, 0, none⟩ = some (.string ((rd_T23 y156 (ji3)).f0)) ∧ w'.cell? ⟨gb160, 1, none⟩ = some (.string ((rd_T23 y156 (ji3)).f1)) ∧ w'.cell? ⟨gb160, 2, none⟩ = some (.int .u64 ((rd_T23 y156 (ji3)).f2)) ∧ w'.cell? ⟨gb160, 3, none⟩ = some (.int .i64 ((rd_T23 y156 (ji3)).f3))) (ds := []) #[false, false, false, false, false, false, false, false, false, false, false, false, false, false, false, false, false, false, false, false, false, false, false, false] (by kernel_rfl) rfl rfl ⟨(blk_cell BK160.out 0).trans rfl, (blk_cell BK160.out 1).trans rfl, (blk_cell BK160.out 2).trans rfl, (blk_cell BK160.out 3).trans rfl⟩ (fun hHeld => ?_); refine with_tabW glebelaw6_DateForms.tab9 glebelaw6_DateForms.bits9 (fun HT_ HW_ => ?_)
                        generalize w26.drew = w27 at BK160 HB hHeld ⊢
                        refine pure_ (i := 0) (N := some 71) (v := ?_) (a' := ?_) #[true, false, false, false, false, false, false, false, false, false, false, false, false, false, false, false, false, false, false, false, false, false, false, false] rfl rfl (any_of HT_.out (by kernel_rfl)) (fun _ _ _ h => h) (Or.inl ⟨by rfl, ?_⟩) ?_ ?_
                        rotate_left
                        · intro w'
                          go_simp
                          with_reducible rfl
                        rotate_left
                        · simp only [Act.put, List.setIfInBounds_toArray, List.set_cons_zero, List.set_cons_succ, i64_w, i32_w]
                          rfl
                        refine pure_ (i := 1) (N := some 72) (v := ?_) (a' := ?_) #[true, true, false, false, false, false, false, false, false, false, false, false, false, false, false, false, false, false, false, false, false, false, false, false] rfl rfl (any_of HT_.out (by kernel_rfl)) (fun _ _ _ h => h) (Or.inl ⟨by rfl, ?_⟩) ?_ ?_
                        rotate_left
                        · intro w'
                          go_simp
                          with_reducible rfl
                        rotate_left
                        · simp only [Act.put, List.setIfInBounds_toArray, List.set_cons_zero, List.set_cons_succ, i64_w, i32_w]
                          rfl
                        refine pure_ (i := 2) (N := some 73) (v := ?_) (a' := ?_) #[true, true, true, false, false, false, false, false, false, false, false, false, false, false, false, false, false, false, false, false, false, false, false, false] rfl rfl (any_of HT_.out (by kernel_rfl)) (fun _ _ _ h => h) (Or.inl ⟨by rfl, ?_⟩) ?_ ?_
                        rotate_left
                        · intro w'
                          go_simp
                          with_reducible rfl
                        rotate_left
                        · simp only [Act.put, List.setIfInBounds_toArray, List.set_cons_zero, List.set_cons_succ, i64_w, i32_w]
                          rfl
                        refine pure_ (i := 3) (N := some 74) (v := ?_) (a' := ?_) #[true, true, true, true, false, false, false, false, false, false, false, false, false, false, false, false, false, false, false, false, false, false, false, false] rfl rfl (any_of HT_.out (by kernel_rfl)) (fun _ _ _ h => h) (Or.inl ⟨by rfl, ?_⟩) ?_ ?_
                        rotate_left
                        · intro w'
                          go_simp
                          with_reducible rfl
                        rotate_left
                        · simp only [Act.put, List.setIfInBounds_toArray, List.set_cons_zero, List.set_cons_succ, i64_w, i32_w]
                          rfl
                        refine take_ (i := 4) (N := some 75) (v := ?_) (a' := ?_) #[true, true, true, true, true, false, false, false, false, false, false, false, false, false, false, false, false, false, false, false, false, false, false, false] rfl rfl (take_ofW HT_.out HW_.out (by kernel_rfl)) (fun _ _ _ h => h) (Or.inl ⟨by rfl, ?_⟩) hHeld ?_ ?_
                        rotate_left
                        · rintro w' ⟨s0, s1, s2, s3⟩
                          go_simp
                          with_reducible rfl
                        rotate_left
                        · simp only [Act.put, List.setIfInBounds_toArray, List.set_cons_zero, List.set_cons_succ, i64_w, i32_w]
                          rfl
                        refine pure_ (i := 5) (N := some 76) (v := ?_) (a' := ?_) #[true, true, true, true, true, true, false, false, false, false, false, false, false, false, false, false, false, false, false, false, false, false, false, false] rfl rfl (any_of HT_.out (by kernel_rfl)) (fun _ _ _ h => h) (Or.inl ⟨by rfl, ?_⟩) ?_ ?_
                        rotate_left
                        · intro w'
                          go_simp
                          with_reducible rfl
                        rotate_left
                        · simp only [Act.put, List.setIfInBounds_toArray, List.set_cons_zero, List.set_cons_succ, i64_w, i32_w]
                          rfl
                        refine pure_ (i := 6) (N := some 77) (v := ?_) (a' := ?_) #[true, true, true, true, true, true, true, false, false, false, false, false, false, false, false, false, false, false, false, false, false, false, false, false] rfl rfl (any_of HT_.out (by kernel_rfl)) (fun _ _ _ h => h) (Or.inl ⟨by rfl, ?_⟩) ?_ ?_
                        rotate_left
                        · intro w'
                          go_simp
                          with_reducible rfl
                        rotate_left
                        · simp only [Act.put, List.setIfInBounds_toArray, List.set_cons_zero, List.set_cons_succ, i64_w, i32_w]
                          rfl
                        refine pure_ (i := 7) (N := some 78) (v := ?_) (a' := ?_) #[true, true, true, true, true, true, true, true, false, false, false, false, false, false, false, false, false, false, false, false, false, false, false, false] rfl rfl (any_of HT_.out (by kernel_rfl)) (fun _ _ _ h => h) (Or.inl ⟨by rfl, ?_⟩) ?_ ?_
                        rotate_left
                        · intro w'
                          go_simp
                          with_reducible rfl
                        rotate_left
                        · simp only [Act.put, List.setIfInBounds_toArray, List.set_cons_zero, List.set_cons_succ, i64_w, i32_w]
                          rfl
                        refine pure_ (i := 8) (N := some 79) (v := ?_) (a' := ?_) #[true, true, true, true, true, true, true, true, true, false, false, false, false, false, false, false, false, false, false, false, false, false, false, false] rfl rfl (any_of HT_.out (by kernel_rfl)) (fun _ _ _ h => h) (Or.inl ⟨by rfl, ?_⟩) ?_ ?_
                        rotate_left
                        · intro w'
                          go_simp
                          with_reducible rfl
                        rotate_left
                        · simp only [Act.put, List.setIfInBounds_toArray, List.set_cons_zero, List.set_cons_succ, i64_w, i32_w]
                          rfl
                        refine pure_ (i := 9) (N := some 80) (v := ?_) (a' := ?_) #[true, true, true, true, true, true, true, true, true, true, false, false, false, false, false, false, false, false, false, false, false, false, false, false] rfl rfl (any_of HT_.out (by kernel_rfl)) (fun _ _ _ h => h) (Or.inl ⟨by rfl, ?_⟩) ?_ ?_
                        rotate_left
                        · intro w'
                          go_simp
                          with_reducible rfl
                        rotate_left
                        · simp only [Act.put, List.setIfInBounds_toArray, List.set_cons_zero, List.set_cons_succ, i64_w, i32_w]
                          rfl
                        refine take_ (i := 10) (N := some 81) (v := ?_) (a' := ?_) #[true, true, true, true, true, true, true, true, true, true, true, false, false, false, false, false, false, false, false, false, false, false, false, false] rfl rfl (take_ofW HT_.out HW_.out (by kernel_rfl)) (fun _ _ _ h => h) (Or.inl ⟨by rfl, ?_⟩) hHeld ?_ ?_
                        rotate_left
                        · rintro w' ⟨s0, s1, s2, s3⟩
                          go_simp
                          with_reducible rfl
                        rotate_left
                        · simp only [Act.put, List.setIfInBounds_toArray, List.set_cons_zero, List.set_cons_succ, i64_w, i32_w]
                          rfl
                        refine pure_ (i := 11) (N := some 82) (v := ?_) (a' := ?_) #[true, true, true, true, true, true, true, true, true, true, true, true, false, false, false, false, false, false, false, false, false, false, false, false] rfl rfl (any_of HT_.out (by kernel_rfl)) (fun _ _ _ h => h) (Or.inl ⟨by rfl, ?_⟩) ?_ ?_
                        rotate_left
                        · intro w'
                          go_simp
                          with_reducible rfl
                        rotate_left
                        · simp only [Act.put, List.setIfInBounds_toArray, List.set_cons_zero, List.set_cons_succ, i64_w, i32_w]
                          rfl
                        refine pure_ (i := 12) (N := some 83) (v := ?_) (a' := ?_) #[true, true, true, true, true, true, true, true, true, true, true, true, true, false, false, false, false, false, false, false, false, false, false, false] rfl rfl (any_of HT_.out (by kernel_rfl)) (fun _ _ _ h => h) (Or.inl ⟨by rfl, ?_⟩) ?_ ?_
                        rotate_left
                        · intro w'
                          go_simp
                          with_reducible rfl
                        rotate_left
                        · simp only [Act.put, List.setIfInBounds_toArray, List.set_cons_zero, List.set_cons_succ, i64_w, i32_w]
                          rfl
                        refine pure_ (i := 13) (N := some 84) (v := ?_) (a' := ?_) #[true, true, true, true, true, true, true, true, true, true, true, true, true, true, false, false, false, false, false, false, false, false, false, false] rfl rfl (any_of HT_.out (by kernel_rfl)) (fun _ _ _ h => h) (Or.inl ⟨by rfl, ?_⟩) ?_ ?_
                        rotate_left
                        · intro w'
                          go_simp
                          with_reducible rfl
                        rotate_left
                        · simp only [Act.put, List.setIfInBounds_toArray, List.set_cons_zero, List.set_cons_succ, i64_w, i32_w]
                          rfl
                        refine pure_ (i := 14) (N := some 85) (v := ?_) (a' := ?_) #[true, true, true, true, true, true, true, true, true, true, true, true, true, true, true, false, false, false, false, false, false, false, false, false] rfl rfl (any_of HT_.out (by kernel_rfl)) (fun _ _ _ h => h) (Or.inl ⟨by rfl, ?_⟩) ?_ ?_
                        rotate_left
                        · intro w'
                          go_simp
                          with_reducible rfl
                        rotate_left
                        · simp only [Act.put, List.setIfInBounds_toArray, List.set_cons_zero, List.set_cons_succ, i64_w, i32_w]
                          rfl
                        refine pure_ (i := 16) (N := some 87) (v := ?_) (a' := ?_) #[true, true, true, true, true, true, true, true, true, true, true, true, true, true, true, false, true, false, false, false, false, false, false, false] rfl rfl (any_of HT_.out (by kernel_rfl)) (fun _ _ _ h => h) (Or.inl ⟨by rfl, ?_⟩) ?_ ?_
                        rotate_left
                        · intro w'
                          go_simp
                          with_reducible rfl
                        rotate_left
                        · simp only [Act.put, List.setIfInBounds_toArray, List.set_cons_zero, List.set_cons_succ, i64_w, i32_w]
                          rfl
                        refine take_ (i := 17) (N := some 88) (v := ?_) (a' := ?_) #[true, true, true, true, true, true, true, true, true, true, true, true, true, true, true, false, true, true, false, false, false, false, false, false] rfl rfl (take_ofW HT_.out HW_.out (by kernel_rfl)) (fun _ _ _ h => h) (Or.inl ⟨by rfl, ?_⟩) hHeld ?_ ?_
                        rotate_left
                        · rintro w' ⟨s0, s1, s2, s3⟩
                          go_simp
                          with_reducible rfl
                        rotate_left
                        · simp only [Act.put, List.setIfInBounds_toArray, List.set_cons_zero, List.set_cons_succ, i64_w, i32_w]
                          rfl
                        refine one_ (i := 15) (N := some 86) #[true, true, true, true, true, true, true, true, true, true, true, true, true, true, true, true, true, true, false, false, false, false, false, false] rfl rfl (one_of HT_.out (by kernel_rfl)) (by decide) (fun K hK => ?_)
                        refine goes_ Tryd.func18 (by kernel_rfl) rfl #[.int .u64 t161] (by rfl) rfl rfl (by (try simp only [List.map_toArray, List.map_cons, List.map_nil]); first | done | rfl | (simp only [List.length_drop, List.length_take]; rfl)) ?_
                        with_reducible refine (date_Week.calls t161 t166 _ A23.out).mono ?_
                        rintro e w' ⟨rfl, ⟨nd, rfl⟩⟩
                        refine ⟨_, rfl, ?_⟩
                        refine hK.out _ _ ⟨(blk_cell BK160.out 0).trans rfl, (blk_cell BK160.out 1).trans rfl, (blk_cell BK160.out 2).trans rfl, (blk_cell BK160.out 3).trans rfl⟩ (fun hHeld => ?_)
                        clear hK K
                        refine norm_ (a' := ?_) ?_ ?_
                        rotate_left
                        · show Act.put _ (some 86) _ = _
                          simp only [Act.put, List.setIfInBounds_toArray, List.set_cons_zero, List.set_cons_succ, i64_w, i32_w]
                          rfl
                        refine pure_ (i := 18) (N := some 89) (v := ?_) (a' := ?_) #[true, true, true, true, true, true, true, true, true, true, true, true, true, true, true, true, true, true, true, false, false, false, false, false] rfl rfl (any_of HT_.out (by kernel_rfl)) (fun _ _ _ h => h) (Or.inl ⟨by rfl, ?_⟩) ?_ ?_
                        rotate_left
                        · intro w'
                          go_simp
                          with_reducible rfl
                        rotate_left
                        · simp only [Act.put, List.setIfInBounds_toArray, List.set_cons_zero, List.set_cons_succ, i64_w, i32_w]
                          rfl
                        refine pure_ (i := 19) (N := some 90) (v := ?_) (a' := ?_) #[true, true, true, true, true, true, true, true, true, true, true, true, true, true, true, true, true, true, true, true, false, false, false, false] rfl rfl (any_of HT_.out (by kernel_rfl)) (fun _ _ _ h => h) (Or.inl ⟨by rfl, ?_⟩) ?_ ?_
                        rotate_left
                        · intro w'
                          go_simp
                          with_reducible rfl
                        rotate_left
                        · simp only [Act.put, List.setIfInBounds_toArray, List.set_cons_zero, List.set_cons_succ, i64_w, i32_w]
                          rfl
                        refine pure_ (i := 20) (N := some 91) (v := ?_) (a' := ?_) #[true, true, true, true, true, true, true, true, true, true, true, true, true, true, true, true, true, true, true, true, true, false, false, false] rfl rfl (any_of HT_.out (by kernel_rfl)) (fun _ _ _ h => h) (Or.inl ⟨by rfl, ?_⟩) ?_ ?_
                        rotate_left
                        · intro w'
                          go_simp
                          with_reducible rfl
                        rotate_left
                        · simp only [Act.put, List.setIfInBounds_toArray, List.set_cons_zero, List.set_cons_succ, i64_w, i32_w]
                          rfl
                        refine one_ (i := 21) (N := some 92) #[true, true, true, true, true, true, true, true, true, true, true, true, true, true, true, true, true, true, true, true, true, true, false, false] rfl rfl (one_of HT_.out (by kernel_rfl)) (by decide) (fun K hK => ?_)
                        refine goes_ Tryd.func16 (by kernel_rfl) rfl #[] (by rfl) rfl rfl (by (try simp only [List.map_toArray, List.map_cons, List.map_nil]); first | done | rfl | (simp only [List.length_drop, List.length_take]; rfl)) ?_
                        with_reducible refine (glebelaw6_awake.calls kj6  t167 _ ?side1 A25.out).mono ?_
                        (case side1 => exact XT.Tabs.below hTab (by repeat (first | (with_reducible first | exact HB.out | apply below_alloc | apply pw_below_drewN | apply below_drew1 | refine below_set ?_ GE160.out) | exact HB.out)))
                        rintro e w28 ⟨rfl, hb⟩
                        refine ⟨_, rfl, ?_⟩
                        have n0_ := Aside0.mk (blk_below (g := gb160) (o := .cells #[.string ((rd_T23 y156 (ji3)).f0), .string ((rd_T23 y156 (ji3)).f1), .int .u64 ((rd_T23 y156 (ji3)).f2), .int .i64 ((rd_T23 y156 (ji3)).f3)] 23 (0, 0)) (by (with_reducible repeat (first | refine blk_drewN ?_ _ | refine blk_drew ?_ | refine blk_alloc ?_ _)); exact BK160.out) hb)
                        have n1_ := Aside0.mk (below_step (by repeat (first | (with_reducible first | exact HB.out | apply below_alloc | apply pw_below_drewN | apply below_drew1 | refine below_set ?_ GE160.out) | exact HB.out)) hb)
                        clear BK160
                        clear HB
                        have BK160 := n0_
                        have HB := n1_
                        clear n0_ n1_
                        (try clear hb)
                        (try clear hb2)
                        (try clear hk)
                        (try clear hi)
                        refine hK.out _ _ ⟨(blk_cell BK160.out 0).trans rfl, (blk_cell BK160.out 1).trans rfl, (blk_cell BK160.out 2).trans rfl, (blk_cell BK160.out 3).trans rfl⟩ (fun hHeld => ?_)
                        clear hK K
                        refine norm_ (a' := ?_) ?_ ?_
                        rotate_left
                        · show Act.put _ (some 92) _ = _
                          simp only [Act.put, List.setIfInBounds_toArray, List.set_cons_zero, List.set_cons_succ, i64_w, i32_w]
                          rfl
                        refine pure_ (i := 22) (N := some 93) (v := ?_) (a' := ?_) #[true, true, true, true, true, true, true, true, true, true, true, true, true, true, true, true, true, true, true, true, true, true, true, false] rfl rfl (any_of HT_.out (by kernel_rfl)) (fun _ _ _ h => h) (Or.inl ⟨by rfl, ?_⟩) ?_ ?_
                        rotate_left
                        · intro w'
                          go_simp
                          with_reducible rfl
                        rotate_left
                        · simp only [Act.put, List.setIfInBounds_toArray, List.set_cons_zero, List.set_cons_succ, i64_w, i32_w]
                          rfl
                        refine pure_ (i := 23) (N := some 2) (v := ?_) (a' := ?_) #[true, true, true, true, true, true, true, true, true, true, true, true, true, true, true, true, true, true, true, true, true, true, true, true] rfl rfl (any_of HT_.out (by kernel_rfl)) (fun _ _ _ h => h) (Or.inl ⟨by rfl, ?_⟩) ?_ ?_
                        rotate_left
                        · intro w'
                          go_simp
                          with_reducible rfl
                        rotate_left
                        · simp only [Act.put, List.setIfInBounds_toArray, List.set_cons_zero, List.set_cons_succ, i64_w, i32_w]
                          rfl
                        refine done_ (done_of HT_.out (by kernel_rfl)) ?_
                        try go_wp2
                        go_ret
                        exact ⟨by first | rfl | (simp [errW_none, errW_some] <;> rfl) | (simp only [← hji3]; first | rfl | (simp [errW_none, errW_some] <;> rfl)) | (simp [*, errW_none, errW_some] <;> rfl), by repeat (first | (with_reducible first | exact HB.out | apply below_alloc | apply pw_below_drewN | apply below_drew1 | refine below_set ?_ GE160.out) | exact HB.out)⟩
                      · rw [if_neg c24] at H
                        exact absurd H (by simp)
                    · rw [if_neg c22] at H
                      exact absurd H (by simp)
                  · rw [if_neg c21] at H
                    exact absurd H (by simp)
                · replace c20 := Bool.eq_false_iff.mpr c20
                  subst c20
                  have H1 : (none) = some r := by rw [if_neg (show ¬ (false = true) by decide)] at H; exact H
                  clear H
                  have H := H1
                  clear H1
                  exact absurd H (by simp)
              · replace c18 := Bool.eq_false_iff.mpr c18
                subst c18
                have H1 : ((glebelaw6_awake.f kj6).bind fun t168 => (some t168)) = some r := by rw [if_neg (show ¬ (false = true) by decide)] at H; exact H
                clear H
                have H := H1
                clear H1
                replace H := Option.bind_eq_some_iff.mp H
                obtain ⟨t168, A290, H⟩ := H
                replace H : (some t168) = some r := H
                have A29 := Aside0.mk A290
                clear A290
                obtain rfl := Option.some.inj H
                go_wp2_with (first | ((with_reducible refine gate_callee (f := 16) rfl ?_); refine goesL_ (some 64) rfl rfl Tryd.func16 (by kernel_rfl) rfl #[] rfl (by (try simp only [List.map_toArray, List.map_cons, List.map_nil]); first | done | rfl | (simp only [List.length_drop, List.length_take]; rfl)) ?_; (with_reducible refine (glebelaw6_awake.calls kj6  t168 _ ?side1 A29.out).mono ?_); (case side1 => exact XT.Tabs.below hTab (by repeat (first | (with_reducible first | exact HB.out | apply below_alloc | apply pw_below_drewN | apply below_drew1 | refine below_set ?_ GE160.out) | exact HB.out))); rintro e w30 ⟨rfl, hb⟩; refine ⟨_, rfl, ?_⟩; have n0_ := Aside0.mk (blk_below (g := gb160) (o := .cells #[.string ((rd_T23 y156 (ji3)).f0), .string ((rd_T23 y156 (ji3)).f1), .int .u64 ((rd_T23 y156 (ji3)).f2), .int .i64 ((rd_T23 y156 (ji3)).f3)] 23 (0, 0)) (by (with_reducible repeat (first | refine blk_drewN ?_ _ | refine blk_drew ?_ | refine blk_alloc ?_ _)); exact BK160.out) hb); have n1_ := Aside0.mk (below_step (by repeat (first | (with_reducible first | exact HB.out | apply below_alloc | apply pw_below_drewN | apply below_drew1 | refine below_set ?_ GE160.out) | exact HB.out)) hb); clear BK160; clear HB; have BK160 := n0_; have HB := n1_; clear n0_ n1_; (try clear hb); (try clear hb2); (try clear hk); (try clear hi)))
                go_ret
                exact ⟨by first | rfl | (simp [errW_none, errW_some] <;> rfl) | (simp only [← hji3]; first | rfl | (simp [errW_none, errW_some] <;> rfl)) | (simp [*, errW_none, errW_some] <;> rfl), by repeat (first | (with_reducible first | exact HB.out | apply below_alloc | apply pw_below_drewN | apply below_drew1 | refine below_set ?_ GE160.out) | exact HB.out)⟩
      · rw [if_neg c5] at H
        exact absurd H (by simp)
    · rw [if_neg c4] at H
      exact absurd H (by simp)

/-- THE ONE PURE STATEMENT of glebelaw6_DateForms: yours. -/
def glebelaw6_DateForms.Pure : Prop := ∀ (a0 : Int), (Lit.int .i64 a0).wf = true → ∃ k, glebelaw6_DateForms.f k a0 = some true
theorem glebelaw6_DateForms.walk (P : glebelaw6_DateForms.Pure) (a0 : Int) (w : World) (w0 : (Lit.int .i64 a0).wf = true) (hTab : XT.Tabs w) :
    Calls Tryd.prog 3 #[.int .i64 a0] w fun e w' => e = .returned (.bool true) ∧ Below w.heap.size w w' := by
  obtain ⟨k, h⟩ := P a0 w0
  refine (glebelaw6_DateForms.calls k a0 true w hTab h).mono ?_
  rintro e w' ⟨rfl, hd⟩
  exact ⟨rfl, hd⟩

end Go.Proofs.YtcgchblljhbdaaaDoor.Z
