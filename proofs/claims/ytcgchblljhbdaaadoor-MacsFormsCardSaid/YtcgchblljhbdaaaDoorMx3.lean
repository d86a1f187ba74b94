-- Printed by this session's own program (wip/xprint) out of the translation. Lean checks it.
import Derived.Test.YtcgchblljhbdaaaDoorMx0
import Derived.Test.YtcgchblljhbdaaaDoorMx1
import Derived.Test.YtcgchblljhbdaaaDoorMx2
namespace Go.Proofs.YtcgchblljhbdaaaDoor.M
open Go.Proofs.YtcgchblljhbdaaaDoor
open Go.RowKit Go.Proofs.YtcgchblljhbdaaaDoorW.PrintWords Go.Proofs.YtcgchblljhbdaaaDoorW.PrintLast Go.Proofs.YtcgchblljhbdaaaDoorW.PrintMore
attribute [local go_sem] max2_int min2_int max_two min_two max_three min_three max_four min_four   -- for this text's walks alone
set_option linter.unusedVariables false
set_option linter.unusedSimpArgs false

/-! ### glebelaw5_MacsForms: function 7 -/
def glebelaw5_MacsForms.f (k : Nat) (a0 : Int) : Option (Bool) := (some (([(⟨(⟨#[48, 48, 58, 48, 48, 58, 48, 48, 58, 48, 48, 58, 48, 48, 58, 48, 48]⟩ : ByteArray), 0, true, false⟩ : S42), (⟨(⟨#[102, 102, 58, 70, 70, 58, 102, 102, 58, 70, 102, 58, 102, 70, 58, 102, 102]⟩ : ByteArray), 281474976710655, true, false⟩ : S42), (⟨(⟨#[48, 48, 58, 48, 48, 58, 48, 48, 58, 48, 48, 58, 48, 48, 58, 48, 103]⟩ : ByteArray), 0, false, false⟩ : S42), (⟨(⟨#[48, 58, 48, 48, 58, 48, 48, 58, 48, 48, 58, 48, 48, 58, 48, 48]⟩ : ByteArray), 0, false, false⟩ : S42), (⟨(⟨#[48, 48, 45, 48, 48, 45, 48, 48, 45, 48, 48, 45, 48, 48, 45, 48, 48]⟩ : ByteArray), 0, false, true⟩ : S42), (⟨(⟨#[48, 48, 48, 48, 48, 48, 48, 48, 48, 48, 48, 48]⟩ : ByteArray), 0, false, true⟩ : S42), (⟨(⟨#[48, 48, 58, 48, 48, 58, 48, 48, 58, 48, 48, 58, 48, 48, 58, 48, 48, 58, 48, 48]⟩ : ByteArray), 0, false, false⟩ : S42), (⟨(⟨#[48, 48, 58, 48, 48, 58, 48, 48, 58, 48, 48, 58, 48, 48, 58, 48, 48, 58]⟩ : ByteArray), 0, false, false⟩ : S42), (⟨(⟨#[]⟩ : ByteArray), 0, false, false⟩ : S42), (⟨(⟨#[97]⟩ : ByteArray), 0, false, true⟩ : S42), (⟨(⟨#[45]⟩ : ByteArray), 0, false, true⟩ : S42), (⟨(⟨#[97, 95, 98]⟩ : ByteArray), 0, false, false⟩ : S42), (⟨(⟨#[65]⟩ : ByteArray), 0, false, false⟩ : S42), (⟨(⟨#[97, 98, 99, 100, 101, 102, 103, 104, 105, 106, 107, 108, 109, 110, 111, 112, 113, 114, 115, 116, 117, 118, 119, 120, 121, 122, 48, 49, 50, 51, 52, 53]⟩ : ByteArray), 0, false, true⟩ : S42), (⟨(⟨#[97, 98, 99, 100, 101, 102, 103, 104, 105, 106, 107, 108, 109, 110, 111, 112, 113, 114, 115, 116, 117, 118, 119, 120, 121, 122, 48, 49, 50, 51, 52, 53, 54]⟩ : ByteArray), 0, false, false⟩ : S42), (⟨(⟨#[195, 169]⟩ : ByteArray), 0, false, false⟩ : S42), (⟨(⟨#[48, 49, 58, 48, 50, 58, 48, 51, 58, 48, 52, 58, 48, 53, 58, 48, 54]⟩ : ByteArray), 1108152157446, true, false⟩ : S42)] : List (S42)) : List (S42))).bind fun y140 => (if (y140.length : Int) = 0 then (none) else (if 0 ≤ (Int.tmod (Go.bits .and .i64 a0 255) (y140.length : Int)) then (if (Int.tmod (Go.bits .and .i64 a0 255) (y140.length : Int)) < (y140.length : Int) then ((macs_Parse.f k ((rd_T42 y140 (Int.tmod (Go.bits .and .i64 a0 255) (y140.length : Int))).f0)).bind fun bt145 => (if bt145.1 = ((rd_T42 y140 (Int.tmod (Go.bits .and .i64 a0 255) (y140.length : Int))).f1) then (if (bt145.2 == ((rd_T42 y140 (Int.tmod (Go.bits .and .i64 a0 255) (y140.length : Int))).f2)) = true then ((macs_Name.f k ((rd_T42 y140 (Int.tmod (Go.bits .and .i64 a0 255) (y140.length : Int))).f0)).bind fun t147 => (if (t147 == ((rd_T42 y140 (Int.tmod (Go.bits .and .i64 a0 255) (y140.length : Int))).f3)) = true then ((glebelaw5_awake.f k).bind fun t148 => (some t148)) else (none))) else (none)) else (none))) else (none)) else (none)))
theorem glebelaw5_MacsForms.mono : ∀ a0 k, LeO (glebelaw5_MacsForms.f k a0) (glebelaw5_MacsForms.f (k + 1) a0) := by
  intro a0 k
  unfold glebelaw5_MacsForms.f
  repeat' first
      | (with_reducible exact glebelaw5_awake.mono _)
      | (with_reducible exact macs_Name.mono _ _)
      | (with_reducible exact macs_Parse.mono _ _)
      | (with_reducible exact LeO.refl _)
      | (with_reducible exact LeO.none _)
      | (with_reducible refine LeO.ite ?_ ?_)
      | (with_reducible refine LeO.bind ?_ (fun _ => ?_))
      | exact glebelaw5_awake.mono _
      | exact macs_Name.mono _ _
      | exact macs_Parse.mono _ _
      | exact LeO.none _
      | refine LeO.ite ?_ ?_
      | refine LeO.bind ?_ (fun _ => ?_)
def glebelaw5_MacsForms.T4 : Bool × List (List Nat × List Nat) := (true, [([], []), ([], []), ([1], [1]), ([0, 2], [0, 2]), ([3], [3]), ([4], [4]), ([4], [4]), ([6, 4], [4, 6]), ([5, 7, 4], [4, 5, 7]), ([4, 8], [4, 8]), ([9, 4], [9]), ([10], [10]), ([11, 10], [10, 11]), ([12, 10, 10], [10, 12]), ([10], [10]), ([14, 10], [10, 14]), ([13, 15, 10], [10, 13, 15]), ([10, 16], [10, 16]), ([17, 13], [17]), ([18, 18], [18]), ([18, 19], [18, 19]), ([20, 19, 0, 1, 2, 3, 4, 5, 6, 7, 8, 9, 10, 11, 12, 13, 14, 15, 16, 17, 18, 19, 20], [20])])
def glebelaw5_MacsForms.B4 : List Nat := [0, 0, 2, 7, 15, 31, 31, 95, 255, 511, 1023, 2047, 4095, 8191, 2047, 18431, 65535, 131071, 262143, 524287, 1048575, 2097151]
theorem glebelaw5_MacsForms.tab4 : rtab .any (opsOf Tryd.f7 4) = glebelaw5_MacsForms.T4 := by kernel_rfl
theorem glebelaw5_MacsForms.bits4 : waitsOk glebelaw5_MacsForms.T4.2 glebelaw5_MacsForms.B4 = true := by kernel_rfl
set_option maxHeartbeats 8000000 in
set_option maxRecDepth 100000 in
theorem glebelaw5_MacsForms.calls (k : Nat) (a0 : Int) (r : Bool) (w : World) (h : glebelaw5_MacsForms.f k a0 = some r) :
    Calls Tryd.prog 7 #[.int .i64 a0] w fun e w' => e = .returned (.bool r) ∧ Below w.heap.size w w' := by
  have hu42 := Tryd.underlying42
  have HB := Aside0.mk (Below.refl w.heap.size w)
  have H : ((some (([(⟨(⟨#[48, 48, 58, 48, 48, 58, 48, 48, 58, 48, 48, 58, 48, 48, 58, 48, 48]⟩ : ByteArray), 0, true, false⟩ : S42), (⟨(⟨#[102, 102, 58, 70, 70, 58, 102, 102, 58, 70, 102, 58, 102, 70, 58, 102, 102]⟩ : ByteArray), 281474976710655, true, false⟩ : S42), (⟨(⟨#[48, 48, 58, 48, 48, 58, 48, 48, 58, 48, 48, 58, 48, 48, 58, 48, 103]⟩ : ByteArray), 0, false, false⟩ : S42), (⟨(⟨#[48, 58, 48, 48, 58, 48, 48, 58, 48, 48, 58, 48, 48, 58, 48, 48]⟩ : ByteArray), 0, false, false⟩ : S42), (⟨(⟨#[48, 48, 45, 48, 48, 45, 48, 48, 45, 48, 48, 45, 48, 48, 45, 48, 48]⟩ : ByteArray), 0, false, true⟩ : S42), (⟨(⟨#[48, 48, 48, 48, 48, 48, 48, 48, 48, 48, 48, 48]⟩ : ByteArray), 0, false, true⟩ : S42), (⟨(⟨#[48, 48, 58, 48, 48, 58, 48, 48, 58, 48, 48, 58, 48, 48, 58, 48, 48, 58, 48, 48]⟩ : ByteArray), 0, false, false⟩ : S42), (⟨(⟨#[48, 48, 58, 48, 48, 58, 48, 48, 58, 48, 48, 58, 48, 48, 58, 48, 48, 58]⟩ : ByteArray), 0, false, false⟩ : S42), (⟨(⟨#[]⟩ : ByteArray), 0, false, false⟩ : S42), (⟨(⟨#[97]⟩ : ByteArray), 0, false, true⟩ : S42), (⟨(⟨#[45]⟩ : ByteArray), 0, false, true⟩ : S42), (⟨(⟨#[97, 95, 98]⟩ : ByteArray), 0, false, false⟩ : S42), (⟨(⟨#[65]⟩ : ByteArray), 0, false, false⟩ : S42), (⟨(⟨#[97, 98, 99, 100, 101, 102, 103, 104, 105, 106, 107, 108, 109, 110, 111, 112, 113, 114, 115, 116, 117, 118, 119, 120, 121, 122, 48, 49, 50, 51, 52, 53]⟩ : ByteArray), 0, false, true⟩ : S42), (⟨(⟨#[97, 98, 99, 100, 101, 102, 103, 104, 105, 106, 107, 108, 109, 110, 111, 112, 113, 114, 115, 116, 117, 118, 119, 120, 121, 122, 48, 49, 50, 51, 52, 53, 54]⟩ : ByteArray), 0, false, false⟩ : S42), (⟨(⟨#[195, 169]⟩ : ByteArray), 0, false, false⟩ : S42), (⟨(⟨#[48, 49, 58, 48, 50, 58, 48, 51, 58, 48, 52, 58, 48, 53, 58, 48, 54]⟩ : ByteArray), 1108152157446, true, false⟩ : S42)] : List (S42)) : List (S42))).bind fun y140 => (if (y140.length : Int) = 0 then (none) else (if 0 ≤ (Int.tmod (Go.bits .and .i64 a0 255) (y140.length : Int)) then (if (Int.tmod (Go.bits .and .i64 a0 255) (y140.length : Int)) < (y140.length : Int) then ((macs_Parse.f k ((rd_T42 y140 (Int.tmod (Go.bits .and .i64 a0 255) (y140.length : Int))).f0)).bind fun bt145 => (if bt145.1 = ((rd_T42 y140 (Int.tmod (Go.bits .and .i64 a0 255) (y140.length : Int))).f1) then (if (bt145.2 == ((rd_T42 y140 (Int.tmod (Go.bits .and .i64 a0 255) (y140.length : Int))).f2)) = true then ((macs_Name.f k ((rd_T42 y140 (Int.tmod (Go.bits .and .i64 a0 255) (y140.length : Int))).f0)).bind fun t147 => (if (t147 == ((rd_T42 y140 (Int.tmod (Go.bits .and .i64 a0 255) (y140.length : Int))).f3)) = true then ((glebelaw5_awake.f k).bind fun t148 => (some t148)) else (none))) else (none)) else (none))) else (none)) else (none)))) = some r := h
  clear h
  obtain ⟨y140, hy140⟩ : ∃ y_ : List (S42), y_ = (([(⟨(⟨#[48, 48, 58, 48, 48, 58, 48, 48, 58, 48, 48, 58, 48, 48, 58, 48, 48]⟩ : ByteArray), 0, true, false⟩ : S42), (⟨(⟨#[102, 102, 58, 70, 70, 58, 102, 102, 58, 70, 102, 58, 102, 70, 58, 102, 102]⟩ : ByteArray), 281474976710655, true, false⟩ : S42), (⟨(⟨#[48, 48, 58, 48, 48, 58, 48, 48, 58, 48, 48, 58, 48, 48, 58, 48, 103]⟩ : ByteArray), 0, false, false⟩ : S42), (⟨(⟨#[48, 58, 48, 48, 58, 48, 48, 58, 48, 48, 58, 48, 48, 58, 48, 48]⟩ : ByteArray), 0, false, false⟩ : S42), (⟨(⟨#[48, 48, 45, 48, 48, 45, 48, 48, 45, 48, 48, 45, 48, 48, 45, 48, 48]⟩ : ByteArray), 0, false, true⟩ : S42), (⟨(⟨#[48, 48, 48, 48, 48, 48, 48, 48, 48, 48, 48, 48]⟩ : ByteArray), 0, false, true⟩ : S42), (⟨(⟨#[48, 48, 58, 48, 48, 58, 48, 48, 58, 48, 48, 58, 48, 48, 58, 48, 48, 58, 48, 48]⟩ : ByteArray), 0, false, false⟩ : S42), (⟨(⟨#[48, 48, 58, 48, 48, 58, 48, 48, 58, 48, 48, 58, 48, 48, 58, 48, 48, 58]⟩ : ByteArray), 0, false, false⟩ : S42), (⟨(⟨#[]⟩ : ByteArray), 0, false, false⟩ : S42), (⟨(⟨#[97]⟩ : ByteArray), 0, false, true⟩ : S42), (⟨(⟨#[45]⟩ : ByteArray), 0, false, true⟩ : S42), (⟨(⟨#[97, 95, 98]⟩ : ByteArray), 0, false, false⟩ : S42), (⟨(⟨#[65]⟩ : ByteArray), 0, false, false⟩ : S42), (⟨(⟨#[97, 98, 99, 100, 101, 102, 103, 104, 105, 106, 107, 108, 109, 110, 111, 112, 113, 114, 115, 116, 117, 118, 119, 120, 121, 122, 48, 49, 50, 51, 52, 53]⟩ : ByteArray), 0, false, true⟩ : S42), (⟨(⟨#[97, 98, 99, 100, 101, 102, 103, 104, 105, 106, 107, 108, 109, 110, 111, 112, 113, 114, 115, 116, 117, 118, 119, 120, 121, 122, 48, 49, 50, 51, 52, 53, 54]⟩ : ByteArray), 0, false, false⟩ : S42), (⟨(⟨#[195, 169]⟩ : ByteArray), 0, false, false⟩ : S42), (⟨(⟨#[48, 49, 58, 48, 50, 58, 48, 51, 58, 48, 52, 58, 48, 53, 58, 48, 54]⟩ : ByteArray), 1108152157446, true, false⟩ : S42)] : List (S42))) := ⟨_, rfl⟩
  replace H : (if (y140.length : Int) = 0 then (none) else (if 0 ≤ (Int.tmod (Go.bits .and .i64 a0 255) (y140.length : Int)) then (if (Int.tmod (Go.bits .and .i64 a0 255) (y140.length : Int)) < (y140.length : Int) then ((macs_Parse.f k ((rd_T42 y140 (Int.tmod (Go.bits .and .i64 a0 255) (y140.length : Int))).f0)).bind fun bt145 => (if bt145.1 = ((rd_T42 y140 (Int.tmod (Go.bits .and .i64 a0 255) (y140.length : Int))).f1) then (if (bt145.2 == ((rd_T42 y140 (Int.tmod (Go.bits .and .i64 a0 255) (y140.length : Int))).f2)) = true then ((macs_Name.f k ((rd_T42 y140 (Int.tmod (Go.bits .and .i64 a0 255) (y140.length : Int))).f0)).bind fun t147 => (if (t147 == ((rd_T42 y140 (Int.tmod (Go.bits .and .i64 a0 255) (y140.length : Int))).f3)) = true then ((glebelaw5_awake.f k).bind fun t148 => (some t148)) else (none))) else (none)) else (none))) else (none)) else (none))) = some r := by first | (rw [hy140]; with_reducible exact H) | (have H2_ := (Option.bind_some _ _).symm.trans H; rw [hy140]; with_reducible exact H2_) | (have H2_ := (Option.bind_some _ _).symm.trans H; with_reducible exact H2_) | with_reducible exact H | (rw [hy140]; exact H) | exact H
  have Ny140 := Aside0.mk hy140
  clear hy140
  by_cases c2 : (y140.length : Int) = 0
  · rw [if_pos c2] at H
    exact absurd H (by simp)
  · rw [if_neg c2] at H
    have c2b0 : ((y140.length : Int) == 0) = false := beq_eq_false_iff_ne.mpr c2
    have c2b1 : ((y140.length : Int) != 0) = true := bne_iff_ne.mpr c2
    have c2b2 : ¬ (y140 = []) := fun h_ => c2 (by rw [h_]; rfl)
    obtain ⟨ji3, hji3⟩ : ∃ j_ : Int, (Int.tmod (Go.bits .and .i64 a0 255) (y140.length : Int)) = j_ := ⟨_, rfl⟩
    replace H : (if 0 ≤ (ji3) then (if (ji3) < (y140.length : Int) then ((macs_Parse.f k ((rd_T42 y140 (ji3)).f0)).bind fun bt145 => (if bt145.1 = ((rd_T42 y140 (ji3)).f1) then (if (bt145.2 == ((rd_T42 y140 (ji3)).f2)) = true then ((macs_Name.f k ((rd_T42 y140 (ji3)).f0)).bind fun t147 => (if (t147 == ((rd_T42 y140 (ji3)).f3)) = true then ((glebelaw5_awake.f k).bind fun t148 => (some t148)) else (none))) else (none)) else (none))) else (none)) else (none)) = some r := by first | (rw [hji3] at H; exact H) | (simp only [hji3] at H ⊢; exact H)
    by_cases c4 : 0 ≤ (ji3)
    · rw [if_pos c4] at H
      have c4b0 : decide (0 ≤ (ji3)) = true := decide_eq_true c4
      clear c4
      by_cases c5 : (ji3) < (y140.length : Int)
      · rw [if_pos c5] at H
        have c5b0 : decide ((ji3) < (y140.length : Int)) = true := decide_eq_true c5
        clear c5
        replace H := Option.bind_eq_some_iff.mp H
        obtain ⟨⟨t145, t146⟩, A60, H⟩ := H
        replace H : (if t145 = ((rd_T42 y140 (ji3)).f1) then (if (t146 == ((rd_T42 y140 (ji3)).f2)) = true then ((macs_Name.f k ((rd_T42 y140 (ji3)).f0)).bind fun t147 => (if (t147 == ((rd_T42 y140 (ji3)).f3)) = true then ((glebelaw5_awake.f k).bind fun t148 => (some t148)) else (none))) else (none)) else (none)) = some r := H
        have A6 := Aside0.mk A60
        clear A60
        by_cases c7 : t145 = ((rd_T42 y140 (ji3)).f1)
        · rw [if_pos c7] at H
          have c7b0 : (t145 == ((rd_T42 y140 (ji3)).f1)) = true := beq_iff_eq.mpr c7
          have c7b1 : (t145 != ((rd_T42 y140 (ji3)).f1)) = false := bne_eq_false_iff_eq.mpr c7
          clear c7
          by_cases c8 : (t146 == ((rd_T42 y140 (ji3)).f2)) = true
          · rw [if_pos c8] at H
            have c8b0 : (t146 == ((rd_T42 y140 (ji3)).f2)) = true := c8
            (try (have c8b1 : decide (t146 = ((rd_T42 y140 (ji3)).f2)) = true := by simpa using c8))
            (try (have c8b2 : (t146 == ((rd_T42 y140 (ji3)).f2)) = true := by simpa using c8))
            clear c8
            replace H := Option.bind_eq_some_iff.mp H
            obtain ⟨t147, A90, H⟩ := H
            replace H : (if (t147 == ((rd_T42 y140 (ji3)).f3)) = true then ((glebelaw5_awake.f k).bind fun t148 => (some t148)) else (none)) = some r := H
            have A9 := Aside0.mk A90
            clear A90
            by_cases c10 : (t147 == ((rd_T42 y140 (ji3)).f3)) = true
            · rw [if_pos c10] at H
              have c10b0 : (t147 == ((rd_T42 y140 (ji3)).f3)) = true := c10
              (try (have c10b1 : decide (t147 = ((rd_T42 y140 (ji3)).f3)) = true := by simpa using c10))
              (try (have c10b2 : (t147 == ((rd_T42 y140 (ji3)).f3)) = true := by simpa using c10))
              clear c10
              replace H := Option.bind_eq_some_iff.mp H
              obtain ⟨t148, A110, H⟩ := H
              replace H : (some t148) = some r := H
              have A11 := Aside0.mk A110
              clear A110
              obtain rfl := Option.some.inj H
              go_enter Tryd.func7, Tryd.ntmps7
              try go_wp2_with (first | ((with_reducible refine gate_dst (N := 24) rfl ?_); refine Kd.R_lit k42 _ 42 ?hg (N := 24) ?hd (xs := ([(⟨(⟨#[48, 48, 58, 48, 48, 58, 48, 48, 58, 48, 48, 58, 48, 48, 58, 48, 48]⟩ : ByteArray), 0, true, false⟩ : S42), (⟨(⟨#[102, 102, 58, 70, 70, 58, 102, 102, 58, 70, 102, 58, 102, 70, 58, 102, 102]⟩ : ByteArray), 281474976710655, true, false⟩ : S42), (⟨(⟨#[48, 48, 58, 48, 48, 58, 48, 48, 58, 48, 48, 58, 48, 48, 58, 48, 103]⟩ : ByteArray), 0, false, false⟩ : S42), (⟨(⟨#[48, 58, 48, 48, 58, 48, 48, 58, 48, 48, 58, 48, 48, 58, 48, 48]⟩ : ByteArray), 0, false, false⟩ : S42), (⟨(⟨#[48, 48, 45, 48, 48, 45, 48, 48, 45, 48, 48, 45, 48, 48, 45, 48, 48]⟩ : ByteArray), 0, false, true⟩ : S42), (⟨(⟨#[48, 48, 48, 48, 48, 48, 48, 48, 48, 48, 48, 48]⟩ : ByteArray), 0, false, true⟩ : S42), (⟨(⟨#[48, 48, 58, 48, 48, 58, 48, 48, 58, 48, 48, 58, 48, 48, 58, 48, 48, 58, 48, 48]⟩ : ByteArray), 0, false, false⟩ : S42), (⟨(⟨#[48, 48, 58, 48, 48, 58, 48, 48, 58, 48, 48, 58, 48, 48, 58, 48, 48, 58]⟩ : ByteArray), 0, false, false⟩ : S42), (⟨(⟨#[]⟩ : ByteArray), 0, false, false⟩ : S42), (⟨(⟨#[97]⟩ : ByteArray), 0, false, true⟩ : S42), (⟨(⟨#[45]⟩ : ByteArray), 0, false, true⟩ : S42), (⟨(⟨#[97, 95, 98]⟩ : ByteArray), 0, false, false⟩ : S42), (⟨(⟨#[65]⟩ : ByteArray), 0, false, false⟩ : S42), (⟨(⟨#[97, 98, 99, 100, 101, 102, 103, 104, 105, 106, 107, 108, 109, 110, 111, 112, 113, 114, 115, 116, 117, 118, 119, 120, 121, 122, 48, 49, 50, 51, 52, 53]⟩ : ByteArray), 0, false, true⟩ : S42), (⟨(⟨#[97, 98, 99, 100, 101, 102, 103, 104, 105, 106, 107, 108, 109, 110, 111, 112, 113, 114, 115, 116, 117, 118, 119, 120, 121, 122, 48, 49, 50, 51, 52, 53, 54]⟩ : ByteArray), 0, false, false⟩ : S42), (⟨(⟨#[195, 169]⟩ : ByteArray), 0, false, false⟩ : S42), (⟨(⟨#[48, 49, 58, 48, 50, 58, 48, 51, 58, 48, 52, 58, 48, 53, 58, 48, 54]⟩ : ByteArray), 1108152157446, true, false⟩ : S42)] : List (S42))) (inner := [.string (⟨#[48, 48, 58, 48, 48, 58, 48, 48, 58, 48, 48, 58, 48, 48, 58, 48, 48]⟩ : ByteArray), .int .u64 0, .bool true, .bool false, .string (⟨#[102, 102, 58, 70, 70, 58, 102, 102, 58, 70, 102, 58, 102, 70, 58, 102, 102]⟩ : ByteArray), .int .u64 281474976710655, .bool true, .bool false, .string (⟨#[48, 48, 58, 48, 48, 58, 48, 48, 58, 48, 48, 58, 48, 48, 58, 48, 103]⟩ : ByteArray), .int .u64 0, .bool false, .bool false, .string (⟨#[48, 58, 48, 48, 58, 48, 48, 58, 48, 48, 58, 48, 48, 58, 48, 48]⟩ : ByteArray), .int .u64 0, .bool false, .bool false, .string (⟨#[48, 48, 45, 48, 48, 45, 48, 48, 45, 48, 48, 45, 48, 48, 45, 48, 48]⟩ : ByteArray), .int .u64 0, .bool false, .bool true, .string (⟨#[48, 48, 48, 48, 48, 48, 48, 48, 48, 48, 48, 48]⟩ : ByteArray), .int .u64 0, .bool false, .bool true, .string (⟨#[48, 48, 58, 48, 48, 58, 48, 48, 58, 48, 48, 58, 48, 48, 58, 48, 48, 58, 48, 48]⟩ : ByteArray), .int .u64 0, .bool false, .bool false, .string (⟨#[48, 48, 58, 48, 48, 58, 48, 48, 58, 48, 48, 58, 48, 48, 58, 48, 48, 58]⟩ : ByteArray), .int .u64 0, .bool false, .bool false, .string (⟨#[]⟩ : ByteArray), .int .u64 0, .bool false, .bool false, .string (⟨#[97]⟩ : ByteArray), .int .u64 0, .bool false, .bool true, .string (⟨#[45]⟩ : ByteArray), .int .u64 0, .bool false, .bool true, .string (⟨#[97, 95, 98]⟩ : ByteArray), .int .u64 0, .bool false, .bool false, .string (⟨#[65]⟩ : ByteArray), .int .u64 0, .bool false, .bool false, .string (⟨#[97, 98, 99, 100, 101, 102, 103, 104, 105, 106, 107, 108, 109, 110, 111, 112, 113, 114, 115, 116, 117, 118, 119, 120, 121, 122, 48, 49, 50, 51, 52, 53]⟩ : ByteArray), .int .u64 0, .bool false, .bool true, .string (⟨#[97, 98, 99, 100, 101, 102, 103, 104, 105, 106, 107, 108, 109, 110, 111, 112, 113, 114, 115, 116, 117, 118, 119, 120, 121, 122, 48, 49, 50, 51, 52, 53, 54]⟩ : ByteArray), .int .u64 0, .bool false, .bool false, .string (⟨#[195, 169]⟩ : ByteArray), .int .u64 0, .bool false, .bool false, .string (⟨#[48, 49, 58, 48, 50, 58, 48, 51, 58, 48, 52, 58, 48, 53, 58, 48, 54]⟩ : ByteArray), .int .u64 1108152157446, .bool true, .bool false]) (ok := fun _ => True) (okp := fun _ => True) ?hr ?hp (fun _ hk => hk) trivial (Below.refl _ _) (Nat.le_refl _) (by simp) ?_; (case hd => rfl); (case hg => rfl); (case hr => first | (go_simp; done) | (go_simp; rfl)); (case hp => exact (Reps.c4 (show Kd.M k42 _ _ _ (⟨(⟨#[48, 48, 58, 48, 48, 58, 48, 48, 58, 48, 48, 58, 48, 48, 58, 48, 48]⟩ : ByteArray), 0, true, false⟩ : S42) [.string (⟨#[48, 48, 58, 48, 48, 58, 48, 48, 58, 48, 48, 58, 48, 48, 58, 48, 48]⟩ : ByteArray), .int .u64 0, .bool true, .bool false] from (k42_mkM _ _ _ (⟨(⟨#[48, 48, 58, 48, 48, 58, 48, 48, 58, 48, 48, 58, 48, 48, 58, 48, 48]⟩ : ByteArray), 0, true, false⟩ : S42) )) (Reps.c4 (show Kd.M k42 _ _ _ (⟨(⟨#[102, 102, 58, 70, 70, 58, 102, 102, 58, 70, 102, 58, 102, 70, 58, 102, 102]⟩ : ByteArray), 281474976710655, true, false⟩ : S42) [.string (⟨#[102, 102, 58, 70, 70, 58, 102, 102, 58, 70, 102, 58, 102, 70, 58, 102, 102]⟩ : ByteArray), .int .u64 281474976710655, .bool true, .bool false] from (k42_mkM _ _ _ (⟨(⟨#[102, 102, 58, 70, 70, 58, 102, 102, 58, 70, 102, 58, 102, 70, 58, 102, 102]⟩ : ByteArray), 281474976710655, true, false⟩ : S42) )) (Reps.c4 (show Kd.M k42 _ _ _ (⟨(⟨#[48, 48, 58, 48, 48, 58, 48, 48, 58, 48, 48, 58, 48, 48, 58, 48, 103]⟩ : ByteArray), 0, false, false⟩ : S42) [.string (⟨#[48, 48, 58, 48, 48, 58, 48, 48, 58, 48, 48, 58, 48, 48, 58, 48, 103]⟩ : ByteArray), .int .u64 0, .bool false, .bool false] from (k42_mkM _ _ _ (⟨(⟨#[48, 48, 58, 48, 48, 58, 48, 48, 58, 48, 48, 58, 48, 48, 58, 48, 103]⟩ : ByteArray), 0, false, false⟩ : S42) )) (Reps.c4 (show Kd.M k42 _ _ _ (⟨(⟨#[48, 58, 48, 48, 58, 48, 48, 58, 48, 48, 58, 48, 48, 58, 48, 48]⟩ : ByteArray), 0, false, false⟩ : S42) [.string (⟨#[48, 58, 48, 48, 58, 48, 48, 58, 48, 48, 58, 48, 48, 58, 48, 48]⟩ : ByteArray), .int .u64 0, .bool false, .bool false] from (k42_mkM _ _ _ (⟨(⟨#[48, 58, 48, 48, 58, 48, 48, 58, 48, 48, 58, 48, 48, 58, 48, 48]⟩ : ByteArray), 0, false, false⟩ : S42) )) (Reps.c4 (show Kd.M k42 _ _ _ (⟨(⟨#[48, 48, 45, 48, 48, 45, 48, 48, 45, 48, 48, 45, 48, 48, 45, 48, 48]⟩ : ByteArray), 0, false, true⟩ : S42) [.string (⟨#[48, 48, 45, 48, 48, 45, 48, 48, 45, 48, 48, 45, 48, 48, 45, 48, 48]⟩ : ByteArray), .int .u64 0, .bool false, .bool true] from (k42_mkM _ _ _ (⟨(⟨#[48, 48, 45, 48, 48, 45, 48, 48, 45, 48, 48, 45, 48, 48, 45, 48, 48]⟩ : ByteArray), 0, false, true⟩ : S42) )) (Reps.c4 (show Kd.M k42 _ _ _ (⟨(⟨#[48, 48, 48, 48, 48, 48, 48, 48, 48, 48, 48, 48]⟩ : ByteArray), 0, false, true⟩ : S42) [.string (⟨#[48, 48, 48, 48, 48, 48, 48, 48, 48, 48, 48, 48]⟩ : ByteArray), .int .u64 0, .bool false, .bool true] from (k42_mkM _ _ _ (⟨(⟨#[48, 48, 48, 48, 48, 48, 48, 48, 48, 48, 48, 48]⟩ : ByteArray), 0, false, true⟩ : S42) )) (Reps.c4 (show Kd.M k42 _ _ _ (⟨(⟨#[48, 48, 58, 48, 48, 58, 48, 48, 58, 48, 48, 58, 48, 48, 58, 48, 48, 58, 48, 48]⟩ : ByteArray), 0, false, false⟩ : S42) [.string (⟨#[48, 48, 58, 48, 48, 58, 48, 48, 58, 48, 48, 58, 48, 48, 58, 48, 48, 58, 48, 48]⟩ : ByteArray), .int .u64 0, .bool false, .bool false] from (k42_mkM _ _ _ (⟨(⟨#[48, 48, 58, 48, 48, 58, 48, 48, 58, 48, 48, 58, 48, 48, 58, 48, 48, 58, 48, 48]⟩ : ByteArray), 0, false, false⟩ : S42) )) (Reps.c4 (show Kd.M k42 _ _ _ (⟨(⟨#[48, 48, 58, 48, 48, 58, 48, 48, 58, 48, 48, 58, 48, 48, 58, 48, 48, 58]⟩ : ByteArray), 0, false, false⟩ : S42) [.string (⟨#[48, 48, 58, 48, 48, 58, 48, 48, 58, 48, 48, 58, 48, 48, 58, 48, 48, 58]⟩ : ByteArray), .int .u64 0, .bool false, .bool false] from (k42_mkM _ _ _ (⟨(⟨#[48, 48, 58, 48, 48, 58, 48, 48, 58, 48, 48, 58, 48, 48, 58, 48, 48, 58]⟩ : ByteArray), 0, false, false⟩ : S42) )) (Reps.c4 (show Kd.M k42 _ _ _ (⟨(⟨#[]⟩ : ByteArray), 0, false, false⟩ : S42) [.string (⟨#[]⟩ : ByteArray), .int .u64 0, .bool false, .bool false] from (k42_mkM _ _ _ (⟨(⟨#[]⟩ : ByteArray), 0, false, false⟩ : S42) )) (Reps.c4 (show Kd.M k42 _ _ _ (⟨(⟨#[97]⟩ : ByteArray), 0, false, true⟩ : S42) [.string (⟨#[97]⟩ : ByteArray), .int .u64 0, .bool false, .bool true] from (k42_mkM _ _ _ (⟨(⟨#[97]⟩ : ByteArray), 0, false, true⟩ : S42) )) (Reps.c4 (show Kd.M k42 _ _ _ (⟨(⟨#[45]⟩ : ByteArray), 0, false, true⟩ : S42) [.string (⟨#[45]⟩ : ByteArray), .int .u64 0, .bool false, .bool true] from (k42_mkM _ _ _ (⟨(⟨#[45]⟩ : ByteArray), 0, false, true⟩ : S42) )) (Reps.c4 (show Kd.M k42 _ _ _ (⟨(⟨#[97, 95, 98]⟩ : ByteArray), 0, false, false⟩ : S42) [.string (⟨#[97, 95, 98]⟩ : ByteArray), .int .u64 0, .bool false, .bool false] from (k42_mkM _ _ _ (⟨(⟨#[97, 95, 98]⟩ : ByteArray), 0, false, false⟩ : S42) )) (Reps.c4 (show Kd.M k42 _ _ _ (⟨(⟨#[65]⟩ : ByteArray), 0, false, false⟩ : S42) [.string (⟨#[65]⟩ : ByteArray), .int .u64 0, .bool false, .bool false] from (k42_mkM _ _ _ (⟨(⟨#[65]⟩ : ByteArray), 0, false, false⟩ : S42) )) (Reps.c4 (show Kd.M k42 _ _ _ (⟨(⟨#[97, 98, 99, 100, 101, 102, 103, 104, 105, 106, 107, 108, 109, 110, 111, 112, 113, 114, 115, 116, 117, 118, 119, 120, 121, 122, 48, 49, 50, 51, 52, 53]⟩ : ByteArray), 0, false, true⟩ : S42) [.string (⟨#[97, 98, 99, 100, 101, 102, 103, 104, 105, 106, 107, 108, 109, 110, 111, 112, 113, 114, 115, 116, 117, 118, 119, 120, 121, 122, 48, 49, 50, 51, 52, 53]⟩ : ByteArray), .int .u64 0, .bool false, .bool true] from (k42_mkM _ _ _ (⟨(⟨#[97, 98, 99, 100, 101, 102, 103, 104, 105, 106, 107, 108, 109, 110, 111, 112, 113, 114, 115, 116, 117, 118, 119, 120, 121, 122, 48, 49, 50, 51, 52, 53]⟩ : ByteArray), 0, false, true⟩ : S42) )) (Reps.c4 (show Kd.M k42 _ _ _ (⟨(⟨#[97, 98, 99, 100, 101, 102, 103, 104, 105, 106, 107, 108, 109, 110, 111, 112, 113, 114, 115, 116, 117, 118, 119, 120, 121, 122, 48, 49, 50, 51, 52, 53, 54]⟩ : ByteArray), 0, false, false⟩ : S42) [.string (⟨#[97, 98, 99, 100, 101, 102, 103, 104, 105, 106, 107, 108, 109, 110, 111, 112, 113, 114, 115, 116, 117, 118, 119, 120, 121, 122, 48, 49, 50, 51, 52, 53, 54]⟩ : ByteArray), .int .u64 0, .bool false, .bool false] from (k42_mkM _ _ _ (⟨(⟨#[97, 98, 99, 100, 101, 102, 103, 104, 105, 106, 107, 108, 109, 110, 111, 112, 113, 114, 115, 116, 117, 118, 119, 120, 121, 122, 48, 49, 50, 51, 52, 53, 54]⟩ : ByteArray), 0, false, false⟩ : S42) )) (Reps.c4 (show Kd.M k42 _ _ _ (⟨(⟨#[195, 169]⟩ : ByteArray), 0, false, false⟩ : S42) [.string (⟨#[195, 169]⟩ : ByteArray), .int .u64 0, .bool false, .bool false] from (k42_mkM _ _ _ (⟨(⟨#[195, 169]⟩ : ByteArray), 0, false, false⟩ : S42) )) (Reps.c4 (show Kd.M k42 _ _ _ (⟨(⟨#[48, 49, 58, 48, 50, 58, 48, 51, 58, 48, 52, 58, 48, 53, 58, 48, 54]⟩ : ByteArray), 1108152157446, true, false⟩ : S42) [.string (⟨#[48, 49, 58, 48, 50, 58, 48, 51, 58, 48, 52, 58, 48, 53, 58, 48, 54]⟩ : ByteArray), .int .u64 1108152157446, .bool true, .bool false] from (k42_mkM _ _ _ (⟨(⟨#[48, 49, 58, 48, 50, 58, 48, 51, 58, 48, 52, 58, 48, 53, 58, 48, 54]⟩ : ByteArray), 1108152157446, true, false⟩ : S42) )) (Reps.none _ _))))))))))))))))))); intro v141 w12 ho13 hb hg_ hnew_; clear hg_ hnew_; (first | rw [← Ny140.out] at ho13 | (simp only [Int.reduceToNat] at ho13; rw [← Ny140.out] at ho13)); have n0_ := Aside0.mk (Kd.R_lower ho13 (below_size (by repeat (first | (with_reducible first | exact HB.out | apply below_alloc | apply pw_below_drewN | apply below_drew1) | exact HB.out)))); have n1_ := Aside0.mk (below_step (by repeat (first | (with_reducible first | exact HB.out | apply below_alloc | apply pw_below_drewN | apply below_drew1) | exact HB.out)) hb); clear HB; have HO142 := n0_; have HB := n1_; clear n0_ n1_; clear hb ho13; obtain ⟨Ao14, co14, eo14⟩ := Kd.R_slice HO142.out; subst eo14; have p143 : 0 ≤ ((ji3) : Int) := of_decide_eq_true (by first | (with_reducible assumption) | assumption); have q143 : (ji3) < (y140.length : Int) := of_decide_eq_true (by first | (with_reducible assumption) | assumption); obtain ⟨ad143, e143, hx143_0, hx143_1, hx143_2, hx143_3⟩ := at_T42 (Kd.R_reads' HO142.out).2.2 (ji3) p143 q143; cases e143; replace p143 := eq_true p143; replace q143 := eq_true q143) | ((with_reducible refine gate_dst (N := 4) rfl ?_); refine box_event ?hg (N := 4) ?hd (cs := #[.string (⟨#[]⟩ : ByteArray), .int .u64 0, .bool false, .bool false]) (t := 42) ?hr ?_; (case hd => rfl); (case hg => rfl); (case hr => first | (go_simp; done) | (go_simp; rfl)); intro gb144 hg w15 hbox hb; have n0_ := Aside0.mk (Kd.R_below (Kd.R_elderB (by (with_reducible repeat (first | apply Kd.R_alloc | apply Kd.R_drewN | apply Kd.R_drew)); exact HO142.out) gb144 (Nat.le_of_eq hg.symm)) hb); have n1_ := Aside0.mk (below_step (by repeat (first | (with_reducible first | exact HB.out | apply below_alloc | apply pw_below_drewN | apply below_drew1) | exact HB.out)) hb); have n2_ := Aside0.mk (hbox); have n3_ := Aside0.mk ((by rw [hg]; exact (below_size (by repeat (first | (with_reducible first | exact HB.out | apply below_alloc | apply pw_below_drewN | apply below_drew1) | exact HB.out))) : w.heap.size ≤ gb144)); have n4_ := Aside0.mk ((by rw [hg]; exact (below_size (by repeat (first | (with_reducible first | exact HB.out | apply below_alloc | apply pw_below_drewN | apply below_drew1) | exact HB.out))) : w.heap.size ≤ gb144)); clear HO142; clear HB; have HO142 := n0_; have HB := n1_; have BK144 := n2_; have GW144 := n3_; have GE144 := n4_; clear n0_ n1_ n2_ n3_ n4_; clear hb hbox hg; have hcz16_0 : w15.cell? ⟨gb144, 0, none⟩ = some (.string (⟨#[]⟩ : ByteArray)) := (blk_cell BK144.out 0).trans rfl; have hcz16_1 : w15.cell? ⟨gb144, 1, none⟩ = some (.int .u64 0) := (blk_cell BK144.out 1).trans rfl; have hcz16_2 : w15.cell? ⟨gb144, 2, none⟩ = some (.bool false) := (blk_cell BK144.out 2).trans rfl; have hcz16_3 : w15.cell? ⟨gb144, 3, none⟩ = some (.bool false) := (blk_cell BK144.out 3).trans rfl; have hfz16_0 := blk_frozen BK144.out 0; have hfz16_1 := blk_frozen BK144.out 1; have hfz16_2 := blk_frozen BK144.out 2; have hfz16_3 := blk_frozen BK144.out 3) | ((with_reducible refine gate_callee (f := 26) rfl ?_); refine goesL_ (some 36) rfl rfl Tryd.func26 (by kernel_rfl) rfl #[.string ((rd_T42 y140 (ji3)).f0)] rfl (by (try simp only [List.map_toArray, List.map_cons, List.map_nil]); first | done | (simp only [hji3]; rfl) | rfl | (simp only [List.length_drop, List.length_take]; rfl)) ?_; (with_reducible refine (macs_Parse.calls k ((rd_T42 y140 (ji3)).f0) t145 t146 _ A6.out).mono ?_); rintro e w17 ⟨rfl, hb⟩; refine ⟨_, rfl, ?_⟩; have n0_ := Aside0.mk (Kd.R_below (by (with_reducible repeat (first | apply Kd.R_alloc | apply Kd.R_drewN | apply Kd.R_drew)); exact (Kd.R_mono (Kd.R_far (p := ⟨gb144, 3, none⟩) (Kd.R_far (p := ⟨gb144, 2, none⟩) (Kd.R_far (p := ⟨gb144, 1, none⟩) (Kd.R_far (p := ⟨gb144, 0, none⟩) (Kd.R_mono HO142.out (fun k_ hk => (⟨hk, hk.2⟩ : _ ∧ k_ ≠ gb144))) (fun _ hk => hk.2) (.string ((rd_T42 y140 (ji3)).f0))) (fun _ hk => hk.2) (.int .u64 ((rd_T42 y140 (ji3)).f1))) (fun _ hk => hk.2) (.bool ((rd_T42 y140 (ji3)).f2))) (fun _ hk => hk.2) (.bool ((rd_T42 y140 (ji3)).f3))) (fun _ h_ => h_.1))) hb); have n1_ := Aside0.mk (blk_below (g := gb144) (o := .cells #[.string ((rd_T42 y140 (ji3)).f0), .int .u64 ((rd_T42 y140 (ji3)).f1), .bool ((rd_T42 y140 (ji3)).f2), .bool ((rd_T42 y140 (ji3)).f3)] 42 (0, 0)) (by (with_reducible repeat (first | refine blk_drewN ?_ _ | refine blk_drew ?_ | refine blk_alloc ?_ _)); refine blk_put (cs := #[.string ((rd_T42 y140 (ji3)).f0), .int .u64 ((rd_T42 y140 (ji3)).f1), .bool ((rd_T42 y140 (ji3)).f2), .bool false]) ?_ 3 _ rfl; (with_reducible repeat (first | refine blk_drewN ?_ _ | refine blk_drew ?_ | refine blk_alloc ?_ _)); refine blk_put (cs := #[.string ((rd_T42 y140 (ji3)).f0), .int .u64 ((rd_T42 y140 (ji3)).f1), .bool false, .bool false]) ?_ 2 _ rfl; (with_reducible repeat (first | refine blk_drewN ?_ _ | refine blk_drew ?_ | refine blk_alloc ?_ _)); refine blk_put (cs := #[.string ((rd_T42 y140 (ji3)).f0), .int .u64 0, .bool false, .bool false]) ?_ 1 _ rfl; (with_reducible repeat (first | refine blk_drewN ?_ _ | refine blk_drew ?_ | refine blk_alloc ?_ _)); refine blk_put (cs := #[.string (⟨#[]⟩ : ByteArray), .int .u64 0, .bool false, .bool false]) ?_ 0 _ rfl; (with_reducible repeat (first | refine blk_drewN ?_ _ | refine blk_drew ?_ | refine blk_alloc ?_ _)); exact BK144.out) hb); have n2_ := Aside0.mk (below_step (by repeat (first | (with_reducible first | exact HB.out | apply below_alloc | apply pw_below_drewN | apply below_drew1 | refine below_set ?_ GE144.out) | exact HB.out)) hb); clear HO142; clear BK144; clear HB; have HO142 := n0_; have BK144 := n1_; have HB := n2_; clear n0_ n1_ n2_; (try clear hb); (try clear hb2); (try clear hk); (try clear hi)))
              have n0_ := Aside0.mk (Kd.R_drew HO142.out)
              have n1_ := Aside0.mk (blk_drew BK144.out)
              have n2_ := Aside0.mk (below_drew1 HB.out)
              clear HO142
              clear BK144
              clear HB
              have HO142 := n0_
              have BK144 := n1_
              have HB := n2_
              clear n0_ n1_ n2_
              refine start_ (n := 22) (S := fun w' => w'.cell? ⟨gb144, 0, none⟩ = some (.string ((rd_T42 y140 (ji3)).f0)) ∧ w'.cell? ⟨gb144, 1, none⟩ = some (.int .u64 ((rd_T42 y140 (ji3)).f1)) ∧ w'.cell? ⟨gb144, 2, none⟩ = some (.bool ((rd_T42 y140 (ji3)).f2)) ∧ w'.cell? ⟨gb144, 3, none⟩ = some (.bool ((rd_T42 y140 (ji3)).f3))) (ds := []) #[false, false, false, false, false, false, false, false, false, false, false, false, false, false, false, false, false, false, false, false, false, false] (by kernel_rfl) rfl rfl ⟨(blk_cell BK144.out 0).trans rfl, (blk_cell BK144.out 1).trans rfl, (blk_cell BK144.out 2).trans rfl, (blk_cell BK144.out 3).trans rfl⟩ (fun hHeld => ?_); refine with_tabW glebelaw5_MacsForms.tab4 glebelaw5_MacsForms.bits4 (fun HT_ HW_ => ?_)
              generalize w17.drew = w18 at HO142 BK144 HB hHeld ⊢
              refine pure_ (i := 0) (N := some 39) (v := ?_) (a' := ?_) #[true, false, false, false, false, false, false, false, false, false, false, false, false, false, false, false, false, false, false, false, false, false] rfl rfl (any_of HT_.out (by kernel_rfl)) (fun _ _ _ h => h) (Or.inl ⟨by rfl, ?_⟩) ?_ ?_
              rotate_left
              · intro w'
                go_simp
                with_reducible rfl
              rotate_left
              · simp only [Act.put, List.setIfInBounds_toArray, List.set_cons_zero, List.set_cons_succ, i64_w, i32_w]
                rfl
              refine pure_ (i := 1) (N := some 40) (v := ?_) (a' := ?_) #[true, true, false, false, false, false, false, false, false, false, false, false, false, false, false, false, false, false, false, false, false, false] rfl rfl (any_of HT_.out (by kernel_rfl)) (fun _ _ _ h => h) (Or.inl ⟨by rfl, ?_⟩) ?_ ?_
              rotate_left
              · intro w'
                go_simp
                with_reducible rfl
              rotate_left
              · simp only [Act.put, List.setIfInBounds_toArray, List.set_cons_zero, List.set_cons_succ, i64_w, i32_w]
                rfl
              refine take_ (i := 2) (N := some 41) (v := ?_) (a' := ?_) #[true, true, true, false, false, false, false, false, false, false, false, false, false, false, false, false, false, false, false, false, false, false] rfl rfl (take_ofW HT_.out HW_.out (by kernel_rfl)) (fun _ _ _ h => h) (Or.inl ⟨by rfl, ?_⟩) hHeld ?_ ?_
              rotate_left
              · rintro w' ⟨s0, s1, s2, s3⟩
                go_simp
                with_reducible rfl
              rotate_left
              · simp only [Act.put, List.setIfInBounds_toArray, List.set_cons_zero, List.set_cons_succ, i64_w, i32_w]
                rfl
              refine pure_ (i := 3) (N := some 42) (v := ?_) (a' := ?_) #[true, true, true, true, false, false, false, false, false, false, false, false, false, false, false, false, false, false, false, false, false, false] rfl rfl (any_of HT_.out (by kernel_rfl)) (fun _ _ _ h => h) (Or.inl ⟨by rfl, ?_⟩) ?_ ?_
              rotate_left
              · intro w'
                go_simp
                with_reducible rfl
              rotate_left
              · simp only [Act.put, List.setIfInBounds_toArray, List.set_cons_zero, List.set_cons_succ, i64_w, i32_w]
                rfl
              refine pure_ (i := 4) (N := some 43) (v := ?_) (a' := ?_) #[true, true, true, true, true, false, false, false, false, false, false, false, false, false, false, false, false, false, false, false, false, false] rfl rfl (any_of HT_.out (by kernel_rfl)) (fun _ _ _ h => h) (Or.inl ⟨by rfl, ?_⟩) ?_ ?_
              rotate_left
              · intro w'
                go_simp
                with_reducible rfl
              rotate_left
              · simp only [Act.put, List.setIfInBounds_toArray, List.set_cons_zero, List.set_cons_succ, i64_w, i32_w]
                rfl
              refine pure_ (i := 5) (N := some 44) (v := ?_) (a' := ?_) #[true, true, true, true, true, true, false, false, false, false, false, false, false, false, false, false, false, false, false, false, false, false] rfl rfl (any_of HT_.out (by kernel_rfl)) (fun _ _ _ h => h) (Or.inl ⟨by rfl, ?_⟩) ?_ ?_
              rotate_left
              · intro w'
                go_simp
                with_reducible rfl
              rotate_left
              · simp only [Act.put, List.setIfInBounds_toArray, List.set_cons_zero, List.set_cons_succ, i64_w, i32_w]
                rfl
              refine pure_ (i := 6) (N := some 45) (v := ?_) (a' := ?_) #[true, true, true, true, true, true, true, false, false, false, false, false, false, false, false, false, false, false, false, false, false, false] rfl rfl (any_of HT_.out (by kernel_rfl)) (fun _ _ _ h => h) (Or.inl ⟨by rfl, ?_⟩) ?_ ?_
              rotate_left
              · intro w'
                go_simp
                with_reducible rfl
              rotate_left
              · simp only [Act.put, List.setIfInBounds_toArray, List.set_cons_zero, List.set_cons_succ, i64_w, i32_w]
                rfl
              refine take_ (i := 7) (N := some 46) (v := ?_) (a' := ?_) #[true, true, true, true, true, true, true, true, false, false, false, false, false, false, false, false, false, false, false, false, false, false] rfl rfl (take_ofW HT_.out HW_.out (by kernel_rfl)) (fun _ _ _ h => h) (Or.inl ⟨by rfl, ?_⟩) hHeld ?_ ?_
              rotate_left
              · rintro w' ⟨s0, s1, s2, s3⟩
                go_simp
                with_reducible rfl
              rotate_left
              · simp only [Act.put, List.setIfInBounds_toArray, List.set_cons_zero, List.set_cons_succ, i64_w, i32_w]
                rfl
              refine pure_ (i := 8) (N := some 47) (v := ?_) (a' := ?_) #[true, true, true, true, true, true, true, true, true, false, false, false, false, false, false, false, false, false, false, false, false, false] rfl rfl (any_of HT_.out (by kernel_rfl)) (fun _ _ _ h => h) (Or.inl ⟨by rfl, ?_⟩) ?_ ?_
              rotate_left
              · intro w'
                go_simp
                with_reducible rfl
              rotate_left
              · simp only [Act.put, List.setIfInBounds_toArray, List.set_cons_zero, List.set_cons_succ, i64_w, i32_w]
                rfl
              refine pure_ (i := 9) (N := some 48) (v := ?_) (a' := ?_) #[true, true, true, true, true, true, true, true, true, true, false, false, false, false, false, false, false, false, false, false, false, false] rfl rfl (any_of HT_.out (by kernel_rfl)) (fun _ _ _ h => h) (Or.inl ⟨by rfl, ?_⟩) ?_ ?_
              rotate_left
              · intro w'
                go_simp
                with_reducible rfl
              rotate_left
              · simp only [Act.put, List.setIfInBounds_toArray, List.set_cons_zero, List.set_cons_succ, i64_w, i32_w]
                rfl
              refine pure_ (i := 10) (N := some 49) (v := ?_) (a' := ?_) #[true, true, true, true, true, true, true, true, true, true, true, false, false, false, false, false, false, false, false, false, false, false] rfl rfl (any_of HT_.out (by kernel_rfl)) (fun _ _ _ h => h) (Or.inl ⟨by rfl, ?_⟩) ?_ ?_
              rotate_left
              · intro w'
                go_simp
                with_reducible rfl
              rotate_left
              · simp only [Act.put, List.setIfInBounds_toArray, List.set_cons_zero, List.set_cons_succ, i64_w, i32_w]
                rfl
              refine pure_ (i := 11) (N := some 50) (v := ?_) (a' := ?_) #[true, true, true, true, true, true, true, true, true, true, true, true, false, false, false, false, false, false, false, false, false, false] rfl rfl (any_of HT_.out (by kernel_rfl)) (fun _ _ _ h => h) (Or.inl ⟨by rfl, ?_⟩) ?_ ?_
              rotate_left
              · intro w'
                go_simp
                with_reducible rfl
              rotate_left
              · simp only [Act.put, List.setIfInBounds_toArray, List.set_cons_zero, List.set_cons_succ, i64_w, i32_w]
                rfl
              refine pure_ (i := 14) (N := some 53) (v := ?_) (a' := ?_) #[true, true, true, true, true, true, true, true, true, true, true, true, false, false, true, false, false, false, false, false, false, false] rfl rfl (any_of HT_.out (by kernel_rfl)) (fun _ _ _ h => h) (Or.inl ⟨by rfl, ?_⟩) ?_ ?_
              rotate_left
              · intro w'
                go_simp
                with_reducible rfl
              rotate_left
              · simp only [Act.put, List.setIfInBounds_toArray, List.set_cons_zero, List.set_cons_succ, i64_w, i32_w]
                rfl
              refine take_ (i := 12) (N := some 51) (v := ?_) (a' := ?_) #[true, true, true, true, true, true, true, true, true, true, true, true, true, false, true, false, false, false, false, false, false, false] rfl rfl (take_ofW HT_.out HW_.out (by kernel_rfl)) (fun _ _ _ h => h) (Or.inl ⟨by rfl, ?_⟩) hHeld ?_ ?_
              rotate_left
              · rintro w' ⟨s0, s1, s2, s3⟩
                go_simp
                with_reducible rfl
              rotate_left
              · simp only [Act.put, List.setIfInBounds_toArray, List.set_cons_zero, List.set_cons_succ, i64_w, i32_w]
                rfl
              refine take_ (i := 15) (N := some 54) (v := ?_) (a' := ?_) #[true, true, true, true, true, true, true, true, true, true, true, true, true, false, true, true, false, false, false, false, false, false] rfl rfl (take_ofW HT_.out HW_.out (by kernel_rfl)) (fun _ _ _ h => h) (Or.inl ⟨by rfl, ?_⟩) hHeld ?_ ?_
              rotate_left
              · rintro w' ⟨s0, s1, s2, s3⟩
                go_simp
                with_reducible rfl
              rotate_left
              · simp only [Act.put, List.setIfInBounds_toArray, List.set_cons_zero, List.set_cons_succ, i64_w, i32_w]
                rfl
              refine one_ (i := 13) (N := some 52) #[true, true, true, true, true, true, true, true, true, true, true, true, true, true, true, true, false, false, false, false, false, false] rfl rfl (one_of HT_.out (by kernel_rfl)) (by decide) (fun K hK => ?_)
              refine goes_ Tryd.func27 (by kernel_rfl) rfl #[.string ((rd_T42 y140 (ji3)).f0)] (by rfl) rfl rfl (by (try simp only [List.map_toArray, List.map_cons, List.map_nil]); first | done | (simp only [hji3]; rfl) | rfl | (simp only [List.length_drop, List.length_take]; rfl)) ?_
              with_reducible refine (macs_Name.calls k ((rd_T42 y140 (ji3)).f0) t147 _ A9.out).mono ?_
              rintro e w19 ⟨rfl, hb⟩
              refine ⟨_, rfl, ?_⟩
              have n0_ := Aside0.mk (Kd.R_below (by (with_reducible repeat (first | apply Kd.R_alloc | apply Kd.R_drewN | apply Kd.R_drew)); exact HO142.out) hb)
              have n1_ := Aside0.mk (blk_below (g := gb144) (o := .cells #[.string ((rd_T42 y140 (ji3)).f0), .int .u64 ((rd_T42 y140 (ji3)).f1), .bool ((rd_T42 y140 (ji3)).f2), .bool ((rd_T42 y140 (ji3)).f3)] 42 (0, 0)) (by (with_reducible repeat (first | refine blk_drewN ?_ _ | refine blk_drew ?_ | refine blk_alloc ?_ _)); exact BK144.out) hb)
              have n2_ := Aside0.mk (below_step (by repeat (first | (with_reducible first | exact HB.out | apply below_alloc | apply pw_below_drewN | apply below_drew1 | refine below_set ?_ GE144.out) | exact HB.out)) hb)
              clear HO142
              clear BK144
              clear HB
              have HO142 := n0_
              have BK144 := n1_
              have HB := n2_
              clear n0_ n1_ n2_
              (try clear hb)
              (try clear hb2)
              (try clear hk)
              (try clear hi)
              refine hK.out _ _ ⟨(blk_cell BK144.out 0).trans rfl, (blk_cell BK144.out 1).trans rfl, (blk_cell BK144.out 2).trans rfl, (blk_cell BK144.out 3).trans rfl⟩ (fun hHeld => ?_)
              clear hK K
              refine norm_ (a' := ?_) ?_ ?_
              rotate_left
              · show Act.put _ (some 52) _ = _
                simp only [Act.put, List.setIfInBounds_toArray, List.set_cons_zero, List.set_cons_succ, i64_w, i32_w]
                rfl
              refine pure_ (i := 16) (N := some 55) (v := ?_) (a' := ?_) #[true, true, true, true, true, true, true, true, true, true, true, true, true, true, true, true, true, false, false, false, false, false] rfl rfl (any_of HT_.out (by kernel_rfl)) (fun _ _ _ h => h) (Or.inl ⟨by rfl, ?_⟩) ?_ ?_
              rotate_left
              · intro w'
                go_simp
                with_reducible rfl
              rotate_left
              · simp only [Act.put, List.setIfInBounds_toArray, List.set_cons_zero, List.set_cons_succ, i64_w, i32_w]
                rfl
              refine pure_ (i := 17) (N := some 56) (v := ?_) (a' := ?_) #[true, true, true, true, true, true, true, true, true, true, true, true, true, true, true, true, true, true, false, false, false, false] rfl rfl (any_of HT_.out (by kernel_rfl)) (fun _ _ _ h => h) (Or.inl ⟨by rfl, ?_⟩) ?_ ?_
              rotate_left
              · intro w'
                go_simp
                with_reducible rfl
              rotate_left
              · simp only [Act.put, List.setIfInBounds_toArray, List.set_cons_zero, List.set_cons_succ, i64_w, i32_w]
                rfl
              refine pure_ (i := 18) (N := some 57) (v := ?_) (a' := ?_) #[true, true, true, true, true, true, true, true, true, true, true, true, true, true, true, true, true, true, true, false, false, false] rfl rfl (any_of HT_.out (by kernel_rfl)) (fun _ _ _ h => h) (Or.inl ⟨by rfl, ?_⟩) ?_ ?_
              rotate_left
              · intro w'
                go_simp
                with_reducible rfl
              rotate_left
              · simp only [Act.put, List.setIfInBounds_toArray, List.set_cons_zero, List.set_cons_succ, i64_w, i32_w]
                rfl
              refine one_ (i := 19) (N := some 58) #[true, true, true, true, true, true, true, true, true, true, true, true, true, true, true, true, true, true, true, true, false, false] rfl rfl (one_of HT_.out (by kernel_rfl)) (by decide) (fun K hK => ?_)
              refine goes_ Tryd.func28 (by kernel_rfl) rfl #[] (by rfl) rfl rfl (by (try simp only [List.map_toArray, List.map_cons, List.map_nil]); first | done | rfl | (simp only [List.length_drop, List.length_take]; rfl)) ?_
              with_reducible refine (glebelaw5_awake.calls k  t148 _ A11.out).mono ?_
              rintro e w20 ⟨rfl, hb⟩
              refine ⟨_, rfl, ?_⟩
              have n0_ := Aside0.mk (Kd.R_below (by (with_reducible repeat (first | apply Kd.R_alloc | apply Kd.R_drewN | apply Kd.R_drew)); exact HO142.out) hb)
              have n1_ := Aside0.mk (blk_below (g := gb144) (o := .cells #[.string ((rd_T42 y140 (ji3)).f0), .int .u64 ((rd_T42 y140 (ji3)).f1), .bool ((rd_T42 y140 (ji3)).f2), .bool ((rd_T42 y140 (ji3)).f3)] 42 (0, 0)) (by (with_reducible repeat (first | refine blk_drewN ?_ _ | refine blk_drew ?_ | refine blk_alloc ?_ _)); exact BK144.out) hb)
              have n2_ := Aside0.mk (below_step (by repeat (first | (with_reducible first | exact HB.out | apply below_alloc | apply pw_below_drewN | apply below_drew1 | refine below_set ?_ GE144.out) | exact HB.out)) hb)
              clear HO142
              clear BK144
              clear HB
              have HO142 := n0_
              have BK144 := n1_
              have HB := n2_
              clear n0_ n1_ n2_
              (try clear hb)
              (try clear hb2)
              (try clear hk)
              (try clear hi)
              refine hK.out _ _ ⟨(blk_cell BK144.out 0).trans rfl, (blk_cell BK144.out 1).trans rfl, (blk_cell BK144.out 2).trans rfl, (blk_cell BK144.out 3).trans rfl⟩ (fun hHeld => ?_)
              clear hK K
              refine norm_ (a' := ?_) ?_ ?_
              rotate_left
              · show Act.put _ (some 58) _ = _
                simp only [Act.put, List.setIfInBounds_toArray, List.set_cons_zero, List.set_cons_succ, i64_w, i32_w]
                rfl
              refine pure_ (i := 20) (N := some 59) (v := ?_) (a' := ?_) #[true, true, true, true, true, true, true, true, true, true, true, true, true, true, true, true, true, true, true, true, true, false] rfl rfl (any_of HT_.out (by kernel_rfl)) (fun _ _ _ h => h) (Or.inl ⟨by rfl, ?_⟩) ?_ ?_
              rotate_left
              · intro w'
                go_simp
                with_reducible rfl
              rotate_left
              · simp only [Act.put, List.setIfInBounds_toArray, List.set_cons_zero, List.set_cons_succ, i64_w, i32_w]
                rfl
              refine pure_ (i := 21) (N := some 2) (v := ?_) (a' := ?_) #[true, true, true, true, true, true, true, true, true, true, true, true, true, true, true, true, true, true, true, true, true, true] rfl rfl (any_of HT_.out (by kernel_rfl)) (fun _ _ _ h => h) (Or.inl ⟨by rfl, ?_⟩) ?_ ?_
              rotate_left
              · intro w'
                go_simp
                with_reducible rfl
              rotate_left
              · simp only [Act.put, List.setIfInBounds_toArray, List.set_cons_zero, List.set_cons_succ, i64_w, i32_w]
                rfl
              refine done_ (done_of HT_.out (by kernel_rfl)) ?_
              try go_wp2
              go_ret
              exact ⟨by first | rfl | (simp [errW_none, errW_some] <;> rfl) | (simp only [← hji3]; first | rfl | (simp [errW_none, errW_some] <;> rfl)) | (simp [*, errW_none, errW_some] <;> rfl), by repeat (first | (with_reducible first | exact HB.out | apply below_alloc | apply pw_below_drewN | apply below_drew1 | refine below_set ?_ GE144.out) | exact HB.out)⟩
            · rw [if_neg c10] at H
              exact absurd H (by simp)
          · rw [if_neg c8] at H
            exact absurd H (by simp)
        · rw [if_neg c7] at H
          exact absurd H (by simp)
      · rw [if_neg c5] at H
        exact absurd H (by simp)
    · rw [if_neg c4] at H
      exact absurd H (by simp)

/-- THE ONE PURE STATEMENT of glebelaw5_MacsForms: yours. -/
def glebelaw5_MacsForms.Pure : Prop := ∀ (a0 : Int), (Lit.int .i64 a0).wf = true → ∃ k, glebelaw5_MacsForms.f k a0 = some true
theorem glebelaw5_MacsForms.walk (P : glebelaw5_MacsForms.Pure) (a0 : Int) (w : World) (w0 : (Lit.int .i64 a0).wf = true) :
    Calls Tryd.prog 7 #[.int .i64 a0] w fun e w' => e = .returned (.bool true) ∧ Below w.heap.size w w' := by
  obtain ⟨k, h⟩ := P a0 w0
  refine (glebelaw5_MacsForms.calls k a0 true w h).mono ?_
  rintro e w' ⟨rfl, hd⟩
  exact ⟨rfl, hd⟩

end Go.Proofs.YtcgchblljhbdaaaDoor.M
