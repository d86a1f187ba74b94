-- Printed by this session's own program (wip/xprint) out of the translation. Lean checks it.
import Derived.Test.YtnkcffmklomfhaaYx0
import Derived.Test.YtnkcffmklomfhaaYx3
namespace Go.Proofs.Ytnkcffmklomfhaa.Y
open Go.Proofs.Ytnkcffmklomfhaa
open Go.RowKit Go.Proofs.YtnkcffmklomfhaaW.PrintWords Go.Proofs.YtnkcffmklomfhaaW.PrintLast Go.Proofs.YtnkcffmklomfhaaW.PrintMore
attribute [local go_sem] max2_int min2_int max_two min_two max_three min_three max_four min_four   -- for this text's walks alone
set_option linter.unusedVariables false
set_option linter.unusedSimpArgs false

/-! ### glebelaw7_ScanForms: function 10 -/
def glebelaw7_ScanForms.f (k : Nat) (a0 : Int) : Option (Bool) := (some (([(⟨(⟨#[]⟩ : ByteArray), 0, 0, 1, 1, 1⟩ : S51), (⟨(⟨#[97]⟩ : ByteArray), 1, 1, 1, 2, 1⟩ : S51), (⟨(⟨#[97, 10]⟩ : ByteArray), 1, 2, 2, 1, 2⟩ : S51), (⟨(⟨#[10]⟩ : ByteArray), 1, 0, 1, 1, 2⟩ : S51), (⟨(⟨#[10, 10]⟩ : ByteArray), 2, 1, 2, 1, 3⟩ : S51), (⟨(⟨#[97, 10, 98]⟩ : ByteArray), 2, 3, 2, 2, 2⟩ : S51), (⟨(⟨#[97, 13, 10, 98, 13, 10]⟩ : ByteArray), 2, 3, 2, 1, 3⟩ : S51), (⟨(⟨#[97, 13, 98]⟩ : ByteArray), 1, 2, 1, 3, 1⟩ : S51), (⟨(⟨#[97, 10, 13, 10]⟩ : ByteArray), 2, 2, 2, 1, 3⟩ : S51), (⟨(⟨#[195, 169, 10]⟩ : ByteArray), 1, 2, 1, 3, 2⟩ : S51)] : List (S51)) : List (S51))).bind fun y165 => (if (y165.length : Int) = 0 then (none) else (if 0 ≤ (Int.tmod (Go.bits .and .i64 a0 255) (y165.length : Int)) then (if (Int.tmod (Go.bits .and .i64 a0 255) (y165.length : Int)) < (y165.length : Int) then (if ((rd_T51 y165 (Int.tmod (Go.bits .and .i64 a0 255) (y165.length : Int))).f0).size ≤ 9223372036854775807 then ((scan_Where.f k (bytesOf ((rd_T51 y165 (Int.tmod (Go.bits .and .i64 a0 255) (y165.length : Int))).f0)) ((rd_T51 y165 (Int.tmod (Go.bits .and .i64 a0 255) (y165.length : Int))).f2)).bind fun bt173 => ((scan_Where.f k (bytesOf ((rd_T51 y165 (Int.tmod (Go.bits .and .i64 a0 255) (y165.length : Int))).f0)) 1000).bind fun bt178 => ((scan_Where.f k (bytesOf ((rd_T51 y165 (Int.tmod (Go.bits .and .i64 a0 255) (y165.length : Int))).f0)) (-5)).bind fun bt183 => ((scan_Long.f (bytesOf ((rd_T51 y165 (Int.tmod (Go.bits .and .i64 a0 255) (y165.length : Int))).f0))).bind fun bt188 => ((scan_Lines.f k (bytesOf ((rd_T51 y165 (Int.tmod (Go.bits .and .i64 a0 255) (y165.length : Int))).f0))).bind fun t195 => (if (t195.length : Int) = ((rd_T51 y165 (Int.tmod (Go.bits .and .i64 a0 255) (y165.length : Int))).f1) then (if bt173.1 = ((rd_T51 y165 (Int.tmod (Go.bits .and .i64 a0 255) (y165.length : Int))).f3) then (if bt173.2 = ((rd_T51 y165 (Int.tmod (Go.bits .and .i64 a0 255) (y165.length : Int))).f4) then (if bt178.1 = ((rd_T51 y165 (Int.tmod (Go.bits .and .i64 a0 255) (y165.length : Int))).f5) then (if bt183.1 = 1 then (if bt183.2 = 1 then (if bt188.2.2 = true then (none) else ((glebelaw7_awake.f k).bind fun t198 => (some t198))) else (none)) else (none)) else (none)) else (none)) else (none)) else (none))))))) else (none)) else (none)) else (none)))
theorem glebelaw7_ScanForms.mono : ∀ a0 k, LeO (glebelaw7_ScanForms.f k a0) (glebelaw7_ScanForms.f (k + 1) a0) := by
  intro a0 k
  unfold glebelaw7_ScanForms.f
  repeat' first
      | (with_reducible exact glebelaw7_awake.mono _)
      | (with_reducible exact scan_Lines.mono _ _)
      | (with_reducible exact scan_Where.mono _ _ _)
      | (with_reducible exact LeO.refl _)
      | (with_reducible exact LeO.none _)
      | (with_reducible refine LeO.ite ?_ ?_)
      | (with_reducible refine LeO.bind ?_ (fun _ => ?_))
      | exact glebelaw7_awake.mono _
      | exact scan_Lines.mono _ _
      | exact scan_Where.mono _ _ _
      | exact LeO.none _
      | refine LeO.ite ?_ ?_
      | refine LeO.bind ?_ (fun _ => ?_)
def glebelaw7_ScanForms.T7 : Bool × List (List Nat × List Nat) := (true, [([], []), ([0], [0]), ([1], [1]), ([2], [2]), ([3], [3]), ([], []), ([5], [5]), ([4, 6], [4, 6]), ([7, 3], [7]), ([8], [8]), ([8], [8]), ([10, 8], [8, 10]), ([9, 11, 8], [8, 9, 11]), ([8, 12], [8, 12]), ([13, 8], [13]), ([14], [14]), ([14], [14]), ([16, 14], [14, 16]), ([15, 17, 14], [14, 15, 17]), ([14, 18], [14, 18]), ([19, 14], [19]), ([20], [20]), ([20], [20]), ([22, 20], [20, 22]), ([21, 23, 20], [20, 21, 23]), ([20, 24], [20, 24]), ([25, 20], [25]), ([26], [26]), ([27, 26], [26, 27]), ([26, 28], [26, 28]), ([29, 26], [29]), ([30], [30]), ([31, 30], [30, 31]), ([30, 32], [30, 32]), ([33, 30], [33]), ([34], [34]), ([35, 34], [34, 35]), ([34, 36], [34, 36]), ([37, 34], [37]), ([38, 38], [38]), ([38, 39], [38, 39]), ([40, 39, 0, 1, 2, 3, 4, 5, 6, 7, 8, 9, 10, 11, 12, 13, 14, 15, 16, 17, 18, 19, 20, 21, 22, 23, 24, 25, 26, 27, 28, 29, 30, 31, 32, 33, 34, 35, 36, 37, 38, 39, 40], [40])])
def glebelaw7_ScanForms.B7 : List Nat := [0, 1, 3, 7, 15, 0, 32, 127, 255, 511, 511, 1535, 4095, 8191, 16383, 32767, 32767, 98303, 262143, 524287, 1048575, 2097151, 2097151, 6291455, 16777215, 33554431, 67108863, 134217727, 268435455, 536870911, 1073741823, 2147483647, 4294967295, 8589934591, 17179869183, 34359738367, 68719476735, 137438953471, 274877906943, 549755813887, 1099511627775, 2199023255551]
theorem glebelaw7_ScanForms.tab7 : rtab .any (opsOf Try.f10 7) = glebelaw7_ScanForms.T7 := by kernel_rfl
theorem glebelaw7_ScanForms.bits7 : waitsOk glebelaw7_ScanForms.T7.2 glebelaw7_ScanForms.B7 = true := by kernel_rfl
set_option maxHeartbeats 8000000 in
set_option maxRecDepth 100000 in
theorem glebelaw7_ScanForms.calls (k : Nat) (a0 : Int) (r : Bool) (w : World) (h : glebelaw7_ScanForms.f k a0 = some r) :
    Calls Try.prog 10 #[.int .i64 a0] w fun e w' => e = .returned (.bool r) ∧ Below w.heap.size w w' := by
  have hu51 := Try.underlying51
  have hu26 := Try.underlying26
  have HB := Aside0.mk (Below.refl w.heap.size w)
  have H : ((some (([(⟨(⟨#[]⟩ : ByteArray), 0, 0, 1, 1, 1⟩ : S51), (⟨(⟨#[97]⟩ : ByteArray), 1, 1, 1, 2, 1⟩ : S51), (⟨(⟨#[97, 10]⟩ : ByteArray), 1, 2, 2, 1, 2⟩ : S51), (⟨(⟨#[10]⟩ : ByteArray), 1, 0, 1, 1, 2⟩ : S51), (⟨(⟨#[10, 10]⟩ : ByteArray), 2, 1, 2, 1, 3⟩ : S51), (⟨(⟨#[97, 10, 98]⟩ : ByteArray), 2, 3, 2, 2, 2⟩ : S51), (⟨(⟨#[97, 13, 10, 98, 13, 10]⟩ : ByteArray), 2, 3, 2, 1, 3⟩ : S51), (⟨(⟨#[97, 13, 98]⟩ : ByteArray), 1, 2, 1, 3, 1⟩ : S51), (⟨(⟨#[97, 10, 13, 10]⟩ : ByteArray), 2, 2, 2, 1, 3⟩ : S51), (⟨(⟨#[195, 169, 10]⟩ : ByteArray), 1, 2, 1, 3, 2⟩ : S51)] : List (S51)) : List (S51))).bind fun y165 => (if (y165.length : Int) = 0 then (none) else (if 0 ≤ (Int.tmod (Go.bits .and .i64 a0 255) (y165.length : Int)) then (if (Int.tmod (Go.bits .and .i64 a0 255) (y165.length : Int)) < (y165.length : Int) then (if ((rd_T51 y165 (Int.tmod (Go.bits .and .i64 a0 255) (y165.length : Int))).f0).size ≤ 9223372036854775807 then ((scan_Where.f k (bytesOf ((rd_T51 y165 (Int.tmod (Go.bits .and .i64 a0 255) (y165.length : Int))).f0)) ((rd_T51 y165 (Int.tmod (Go.bits .and .i64 a0 255) (y165.length : Int))).f2)).bind fun bt173 => ((scan_Where.f k (bytesOf ((rd_T51 y165 (Int.tmod (Go.bits .and .i64 a0 255) (y165.length : Int))).f0)) 1000).bind fun bt178 => ((scan_Where.f k (bytesOf ((rd_T51 y165 (Int.tmod (Go.bits .and .i64 a0 255) (y165.length : Int))).f0)) (-5)).bind fun bt183 => ((scan_Long.f (bytesOf ((rd_T51 y165 (Int.tmod (Go.bits .and .i64 a0 255) (y165.length : Int))).f0))).bind fun bt188 => ((scan_Lines.f k (bytesOf ((rd_T51 y165 (Int.tmod (Go.bits .and .i64 a0 255) (y165.length : Int))).f0))).bind fun t195 => (if (t195.length : Int) = ((rd_T51 y165 (Int.tmod (Go.bits .and .i64 a0 255) (y165.length : Int))).f1) then (if bt173.1 = ((rd_T51 y165 (Int.tmod (Go.bits .and .i64 a0 255) (y165.length : Int))).f3) then (if bt173.2 = ((rd_T51 y165 (Int.tmod (Go.bits .and .i64 a0 255) (y165.length : Int))).f4) then (if bt178.1 = ((rd_T51 y165 (Int.tmod (Go.bits .and .i64 a0 255) (y165.length : Int))).f5) then (if bt183.1 = 1 then (if bt183.2 = 1 then (if bt188.2.2 = true then (none) else ((glebelaw7_awake.f k).bind fun t198 => (some t198))) else (none)) else (none)) else (none)) else (none)) else (none)) else (none))))))) else (none)) else (none)) else (none)))) = some r := h
  clear h
  obtain ⟨y165, hy165⟩ : ∃ y_ : List (S51), y_ = (([(⟨(⟨#[]⟩ : ByteArray), 0, 0, 1, 1, 1⟩ : S51), (⟨(⟨#[97]⟩ : ByteArray), 1, 1, 1, 2, 1⟩ : S51), (⟨(⟨#[97, 10]⟩ : ByteArray), 1, 2, 2, 1, 2⟩ : S51), (⟨(⟨#[10]⟩ : ByteArray), 1, 0, 1, 1, 2⟩ : S51), (⟨(⟨#[10, 10]⟩ : ByteArray), 2, 1, 2, 1, 3⟩ : S51), (⟨(⟨#[97, 10, 98]⟩ : ByteArray), 2, 3, 2, 2, 2⟩ : S51), (⟨(⟨#[97, 13, 10, 98, 13, 10]⟩ : ByteArray), 2, 3, 2, 1, 3⟩ : S51), (⟨(⟨#[97, 13, 98]⟩ : ByteArray), 1, 2, 1, 3, 1⟩ : S51), (⟨(⟨#[97, 10, 13, 10]⟩ : ByteArray), 2, 2, 2, 1, 3⟩ : S51), (⟨(⟨#[195, 169, 10]⟩ : ByteArray), 1, 2, 1, 3, 2⟩ : S51)] : List (S51))) := ⟨_, rfl⟩
  replace H : (if (y165.length : Int) = 0 then (none) else (if 0 ≤ (Int.tmod (Go.bits .and .i64 a0 255) (y165.length : Int)) then (if (Int.tmod (Go.bits .and .i64 a0 255) (y165.length : Int)) < (y165.length : Int) then (if ((rd_T51 y165 (Int.tmod (Go.bits .and .i64 a0 255) (y165.length : Int))).f0).size ≤ 9223372036854775807 then ((scan_Where.f k (bytesOf ((rd_T51 y165 (Int.tmod (Go.bits .and .i64 a0 255) (y165.length : Int))).f0)) ((rd_T51 y165 (Int.tmod (Go.bits .and .i64 a0 255) (y165.length : Int))).f2)).bind fun bt173 => ((scan_Where.f k (bytesOf ((rd_T51 y165 (Int.tmod (Go.bits .and .i64 a0 255) (y165.length : Int))).f0)) 1000).bind fun bt178 => ((scan_Where.f k (bytesOf ((rd_T51 y165 (Int.tmod (Go.bits .and .i64 a0 255) (y165.length : Int))).f0)) (-5)).bind fun bt183 => ((scan_Long.f (bytesOf ((rd_T51 y165 (Int.tmod (Go.bits .and .i64 a0 255) (y165.length : Int))).f0))).bind fun bt188 => ((scan_Lines.f k (bytesOf ((rd_T51 y165 (Int.tmod (Go.bits .and .i64 a0 255) (y165.length : Int))).f0))).bind fun t195 => (if (t195.length : Int) = ((rd_T51 y165 (Int.tmod (Go.bits .and .i64 a0 255) (y165.length : Int))).f1) then (if bt173.1 = ((rd_T51 y165 (Int.tmod (Go.bits .and .i64 a0 255) (y165.length : Int))).f3) then (if bt173.2 = ((rd_T51 y165 (Int.tmod (Go.bits .and .i64 a0 255) (y165.length : Int))).f4) then (if bt178.1 = ((rd_T51 y165 (Int.tmod (Go.bits .and .i64 a0 255) (y165.length : Int))).f5) then (if bt183.1 = 1 then (if bt183.2 = 1 then (if bt188.2.2 = true then (none) else ((glebelaw7_awake.f k).bind fun t198 => (some t198))) else (none)) else (none)) else (none)) else (none)) else (none)) else (none))))))) else (none)) else (none)) else (none))) = some r := by first | (rw [hy165]; with_reducible exact H) | (have H2_ := (Option.bind_some _ _).symm.trans H; rw [hy165]; with_reducible exact H2_) | (have H2_ := (Option.bind_some _ _).symm.trans H; with_reducible exact H2_) | with_reducible exact H | (rw [hy165]; exact H) | exact H
  have Ny165 := Aside0.mk hy165
  clear hy165
  by_cases c2 : (y165.length : Int) = 0
  · rw [if_pos c2] at H
    exact absurd H (by simp)
  · rw [if_neg c2] at H
    have c2b0 : ((y165.length : Int) == 0) = false := beq_eq_false_iff_ne.mpr c2
    have c2b1 : ((y165.length : Int) != 0) = true := bne_iff_ne.mpr c2
    have c2b2 : ¬ (y165 = []) := fun h_ => c2 (by rw [h_]; rfl)
    obtain ⟨ji3, hji3⟩ : ∃ j_ : Int, (Int.tmod (Go.bits .and .i64 a0 255) (y165.length : Int)) = j_ := ⟨_, rfl⟩
    replace H : (if 0 ≤ (ji3) then (if (ji3) < (y165.length : Int) then (if ((rd_T51 y165 (ji3)).f0).size ≤ 9223372036854775807 then ((scan_Where.f k (bytesOf ((rd_T51 y165 (ji3)).f0)) ((rd_T51 y165 (ji3)).f2)).bind fun bt173 => ((scan_Where.f k (bytesOf ((rd_T51 y165 (ji3)).f0)) 1000).bind fun bt178 => ((scan_Where.f k (bytesOf ((rd_T51 y165 (ji3)).f0)) (-5)).bind fun bt183 => ((scan_Long.f (bytesOf ((rd_T51 y165 (ji3)).f0))).bind fun bt188 => ((scan_Lines.f k (bytesOf ((rd_T51 y165 (ji3)).f0))).bind fun t195 => (if (t195.length : Int) = ((rd_T51 y165 (ji3)).f1) then (if bt173.1 = ((rd_T51 y165 (ji3)).f3) then (if bt173.2 = ((rd_T51 y165 (ji3)).f4) then (if bt178.1 = ((rd_T51 y165 (ji3)).f5) then (if bt183.1 = 1 then (if bt183.2 = 1 then (if bt188.2.2 = true then (none) else ((glebelaw7_awake.f k).bind fun t198 => (some t198))) else (none)) else (none)) else (none)) else (none)) else (none)) else (none))))))) else (none)) else (none)) else (none)) = some r := by first | (rw [hji3] at H; exact H) | (simp only [hji3] at H ⊢; exact H)
    by_cases c4 : 0 ≤ (ji3)
    · rw [if_pos c4] at H
      have c4b0 : decide (0 ≤ (ji3)) = true := decide_eq_true c4
      clear c4
      by_cases c5 : (ji3) < (y165.length : Int)
      · rw [if_pos c5] at H
        have c5b0 : decide ((ji3) < (y165.length : Int)) = true := decide_eq_true c5
        clear c5
        by_cases c6 : ((rd_T51 y165 (ji3)).f0).size ≤ 9223372036854775807
        · rw [if_pos c6] at H
          have c6b0 := eq_true c6
          have c6b1 : decide (((rd_T51 y165 (ji3)).f0).size ≤ 9223372036854775807) = true := decide_eq_true c6
          try have c6b2 : (9223372036854775807 < ((rd_T51 y165 (ji3)).f0).size) = False := eq_false (Nat.not_lt.2 c6)
          clear c6
          obtain ⟨y170, hy170⟩ : ∃ y_ : List Int, y_ = (bytesOf ((rd_T51 y165 (ji3)).f0)) := ⟨_, rfl⟩
          replace H : ((scan_Where.f k y170 ((rd_T51 y165 (ji3)).f2)).bind fun bt173 => ((scan_Where.f k (bytesOf ((rd_T51 y165 (ji3)).f0)) 1000).bind fun bt178 => ((scan_Where.f k (bytesOf ((rd_T51 y165 (ji3)).f0)) (-5)).bind fun bt183 => ((scan_Long.f (bytesOf ((rd_T51 y165 (ji3)).f0))).bind fun bt188 => ((scan_Lines.f k (bytesOf ((rd_T51 y165 (ji3)).f0))).bind fun t195 => (if (t195.length : Int) = ((rd_T51 y165 (ji3)).f1) then (if bt173.1 = ((rd_T51 y165 (ji3)).f3) then (if bt173.2 = ((rd_T51 y165 (ji3)).f4) then (if bt178.1 = ((rd_T51 y165 (ji3)).f5) then (if bt183.1 = 1 then (if bt183.2 = 1 then (if bt188.2.2 = true then (none) else ((glebelaw7_awake.f k).bind fun t198 => (some t198))) else (none)) else (none)) else (none)) else (none)) else (none)) else (none))))))) = some r := by first | (rw [hy170]; with_reducible exact H) | (have H2_ := (Option.bind_some _ _).symm.trans H; rw [hy170]; with_reducible exact H2_) | (have H2_ := (Option.bind_some _ _).symm.trans H; with_reducible exact H2_) | with_reducible exact H | (rw [hy170]; exact H) | exact H
          have Ny170 := Aside0.mk hy170
          clear hy170
          replace H := Option.bind_eq_some_iff.mp H
          obtain ⟨⟨t173, t174⟩, A70, H⟩ := H
          replace H : ((scan_Where.f k (bytesOf ((rd_T51 y165 (ji3)).f0)) 1000).bind fun bt178 => ((scan_Where.f k (bytesOf ((rd_T51 y165 (ji3)).f0)) (-5)).bind fun bt183 => ((scan_Long.f (bytesOf ((rd_T51 y165 (ji3)).f0))).bind fun bt188 => ((scan_Lines.f k (bytesOf ((rd_T51 y165 (ji3)).f0))).bind fun t195 => (if (t195.length : Int) = ((rd_T51 y165 (ji3)).f1) then (if t173 = ((rd_T51 y165 (ji3)).f3) then (if t174 = ((rd_T51 y165 (ji3)).f4) then (if bt178.1 = ((rd_T51 y165 (ji3)).f5) then (if bt183.1 = 1 then (if bt183.2 = 1 then (if bt188.2.2 = true then (none) else ((glebelaw7_awake.f k).bind fun t198 => (some t198))) else (none)) else (none)) else (none)) else (none)) else (none)) else (none)))))) = some r := H
          have A7 := Aside0.mk A70
          clear A70
          obtain ⟨y175, hy175⟩ : ∃ y_ : List Int, y_ = (bytesOf ((rd_T51 y165 (ji3)).f0)) := ⟨_, rfl⟩
          replace H : ((scan_Where.f k y175 1000).bind fun bt178 => ((scan_Where.f k (bytesOf ((rd_T51 y165 (ji3)).f0)) (-5)).bind fun bt183 => ((scan_Long.f (bytesOf ((rd_T51 y165 (ji3)).f0))).bind fun bt188 => ((scan_Lines.f k (bytesOf ((rd_T51 y165 (ji3)).f0))).bind fun t195 => (if (t195.length : Int) = ((rd_T51 y165 (ji3)).f1) then (if t173 = ((rd_T51 y165 (ji3)).f3) then (if t174 = ((rd_T51 y165 (ji3)).f4) then (if bt178.1 = ((rd_T51 y165 (ji3)).f5) then (if bt183.1 = 1 then (if bt183.2 = 1 then (if bt188.2.2 = true then (none) else ((glebelaw7_awake.f k).bind fun t198 => (some t198))) else (none)) else (none)) else (none)) else (none)) else (none)) else (none)))))) = some r := by first | (rw [hy175]; with_reducible exact H) | (have H2_ := (Option.bind_some _ _).symm.trans H; rw [hy175]; with_reducible exact H2_) | (have H2_ := (Option.bind_some _ _).symm.trans H; with_reducible exact H2_) | with_reducible exact H | (rw [hy175]; exact H) | exact H
          have Ny175 := Aside0.mk hy175
          clear hy175
          replace H := Option.bind_eq_some_iff.mp H
          obtain ⟨⟨t178, t179⟩, A80, H⟩ := H
          replace H : ((scan_Where.f k (bytesOf ((rd_T51 y165 (ji3)).f0)) (-5)).bind fun bt183 => ((scan_Long.f (bytesOf ((rd_T51 y165 (ji3)).f0))).bind fun bt188 => ((scan_Lines.f k (bytesOf ((rd_T51 y165 (ji3)).f0))).bind fun t195 => (if (t195.length : Int) = ((rd_T51 y165 (ji3)).f1) then (if t173 = ((rd_T51 y165 (ji3)).f3) then (if t174 = ((rd_T51 y165 (ji3)).f4) then (if t178 = ((rd_T51 y165 (ji3)).f5) then (if bt183.1 = 1 then (if bt183.2 = 1 then (if bt188.2.2 = true then (none) else ((glebelaw7_awake.f k).bind fun t198 => (some t198))) else (none)) else (none)) else (none)) else (none)) else (none)) else (none))))) = some r := H
          have A8 := Aside0.mk A80
          clear A80
          obtain ⟨y180, hy180⟩ : ∃ y_ : List Int, y_ = (bytesOf ((rd_T51 y165 (ji3)).f0)) := ⟨_, rfl⟩
          replace H : ((scan_Where.f k y180 (-5)).bind fun bt183 => ((scan_Long.f (bytesOf ((rd_T51 y165 (ji3)).f0))).bind fun bt188 => ((scan_Lines.f k (bytesOf ((rd_T51 y165 (ji3)).f0))).bind fun t195 => (if (t195.length : Int) = ((rd_T51 y165 (ji3)).f1) then (if t173 = ((rd_T51 y165 (ji3)).f3) then (if t174 = ((rd_T51 y165 (ji3)).f4) then (if t178 = ((rd_T51 y165 (ji3)).f5) then (if bt183.1 = 1 then (if bt183.2 = 1 then (if bt188.2.2 = true then (none) else ((glebelaw7_awake.f k).bind fun t198 => (some t198))) else (none)) else (none)) else (none)) else (none)) else (none)) else (none))))) = some r := by first | (rw [hy180]; with_reducible exact H) | (have H2_ := (Option.bind_some _ _).symm.trans H; rw [hy180]; with_reducible exact H2_) | (have H2_ := (Option.bind_some _ _).symm.trans H; with_reducible exact H2_) | with_reducible exact H | (rw [hy180]; exact H) | exact H
          have Ny180 := Aside0.mk hy180
          clear hy180
          replace H := Option.bind_eq_some_iff.mp H
          obtain ⟨⟨t183, t184⟩, A90, H⟩ := H
          replace H : ((scan_Long.f (bytesOf ((rd_T51 y165 (ji3)).f0))).bind fun bt188 => ((scan_Lines.f k (bytesOf ((rd_T51 y165 (ji3)).f0))).bind fun t195 => (if (t195.length : Int) = ((rd_T51 y165 (ji3)).f1) then (if t173 = ((rd_T51 y165 (ji3)).f3) then (if t174 = ((rd_T51 y165 (ji3)).f4) then (if t178 = ((rd_T51 y165 (ji3)).f5) then (if t183 = 1 then (if t184 = 1 then (if bt188.2.2 = true then (none) else ((glebelaw7_awake.f k).bind fun t198 => (some t198))) else (none)) else (none)) else (none)) else (none)) else (none)) else (none)))) = some r := H
          have A9 := Aside0.mk A90
          clear A90
          obtain ⟨y185, hy185⟩ : ∃ y_ : List Int, y_ = (bytesOf ((rd_T51 y165 (ji3)).f0)) := ⟨_, rfl⟩
          replace H : ((scan_Long.f y185).bind fun bt188 => ((scan_Lines.f k (bytesOf ((rd_T51 y165 (ji3)).f0))).bind fun t195 => (if (t195.length : Int) = ((rd_T51 y165 (ji3)).f1) then (if t173 = ((rd_T51 y165 (ji3)).f3) then (if t174 = ((rd_T51 y165 (ji3)).f4) then (if t178 = ((rd_T51 y165 (ji3)).f5) then (if t183 = 1 then (if t184 = 1 then (if bt188.2.2 = true then (none) else ((glebelaw7_awake.f k).bind fun t198 => (some t198))) else (none)) else (none)) else (none)) else (none)) else (none)) else (none)))) = some r := by first | (rw [hy185]; with_reducible exact H) | (have H2_ := (Option.bind_some _ _).symm.trans H; rw [hy185]; with_reducible exact H2_) | (have H2_ := (Option.bind_some _ _).symm.trans H; with_reducible exact H2_) | with_reducible exact H | (rw [hy185]; exact H) | exact H
          have Ny185 := Aside0.mk hy185
          clear hy185
          replace H := Option.bind_eq_some_iff.mp H
          obtain ⟨⟨t188, t189, t190⟩, A100, H⟩ := H
          replace H : ((scan_Lines.f k (bytesOf ((rd_T51 y165 (ji3)).f0))).bind fun t195 => (if (t195.length : Int) = ((rd_T51 y165 (ji3)).f1) then (if t173 = ((rd_T51 y165 (ji3)).f3) then (if t174 = ((rd_T51 y165 (ji3)).f4) then (if t178 = ((rd_T51 y165 (ji3)).f5) then (if t183 = 1 then (if t184 = 1 then (if t190 = true then (none) else ((glebelaw7_awake.f k).bind fun t198 => (some t198))) else (none)) else (none)) else (none)) else (none)) else (none)) else (none))) = some r := H
          have A10 := Aside0.mk A100
          clear A100
          obtain ⟨y192, hy192⟩ : ∃ y_ : List Int, y_ = (bytesOf ((rd_T51 y165 (ji3)).f0)) := ⟨_, rfl⟩
          replace H : ((scan_Lines.f k y192).bind fun t195 => (if (t195.length : Int) = ((rd_T51 y165 (ji3)).f1) then (if t173 = ((rd_T51 y165 (ji3)).f3) then (if t174 = ((rd_T51 y165 (ji3)).f4) then (if t178 = ((rd_T51 y165 (ji3)).f5) then (if t183 = 1 then (if t184 = 1 then (if t190 = true then (none) else ((glebelaw7_awake.f k).bind fun t198 => (some t198))) else (none)) else (none)) else (none)) else (none)) else (none)) else (none))) = some r := by first | (rw [hy192]; with_reducible exact H) | (have H2_ := (Option.bind_some _ _).symm.trans H; rw [hy192]; with_reducible exact H2_) | (have H2_ := (Option.bind_some _ _).symm.trans H; with_reducible exact H2_) | with_reducible exact H | (rw [hy192]; exact H) | exact H
          have Ny192 := Aside0.mk hy192
          clear hy192
          replace H := Option.bind_eq_some_iff.mp H
          obtain ⟨t195, A110, H⟩ := H
          replace H : (if (t195.length : Int) = ((rd_T51 y165 (ji3)).f1) then (if t173 = ((rd_T51 y165 (ji3)).f3) then (if t174 = ((rd_T51 y165 (ji3)).f4) then (if t178 = ((rd_T51 y165 (ji3)).f5) then (if t183 = 1 then (if t184 = 1 then (if t190 = true then (none) else ((glebelaw7_awake.f k).bind fun t198 => (some t198))) else (none)) else (none)) else (none)) else (none)) else (none)) else (none)) = some r := H
          have A11 := Aside0.mk A110
          clear A110
          by_cases c12 : (t195.length : Int) = ((rd_T51 y165 (ji3)).f1)
          · rw [if_pos c12] at H
            have c12b0 : ((t195.length : Int) == ((rd_T51 y165 (ji3)).f1)) = true := beq_iff_eq.mpr c12
            have c12b1 : ((t195.length : Int) != ((rd_T51 y165 (ji3)).f1)) = false := bne_eq_false_iff_eq.mpr c12
            clear c12
            by_cases c13 : t173 = ((rd_T51 y165 (ji3)).f3)
            · rw [if_pos c13] at H
              have c13b0 : (t173 == ((rd_T51 y165 (ji3)).f3)) = true := beq_iff_eq.mpr c13
              have c13b1 : (t173 != ((rd_T51 y165 (ji3)).f3)) = false := bne_eq_false_iff_eq.mpr c13
              clear c13
              by_cases c14 : t174 = ((rd_T51 y165 (ji3)).f4)
              · rw [if_pos c14] at H
                have c14b0 : (t174 == ((rd_T51 y165 (ji3)).f4)) = true := beq_iff_eq.mpr c14
                have c14b1 : (t174 != ((rd_T51 y165 (ji3)).f4)) = false := bne_eq_false_iff_eq.mpr c14
                clear c14
                by_cases c15 : t178 = ((rd_T51 y165 (ji3)).f5)
                · rw [if_pos c15] at H
                  have c15b0 : (t178 == ((rd_T51 y165 (ji3)).f5)) = true := beq_iff_eq.mpr c15
                  have c15b1 : (t178 != ((rd_T51 y165 (ji3)).f5)) = false := bne_eq_false_iff_eq.mpr c15
                  clear c15
                  by_cases c16 : t183 = 1
                  · rw [if_pos c16] at H
                    have c16b0 : (t183 == 1) = true := beq_iff_eq.mpr c16
                    have c16b1 : (t183 != 1) = false := bne_eq_false_iff_eq.mpr c16
                    clear c16
                    by_cases c17 : t184 = 1
                    · rw [if_pos c17] at H
                      have c17b0 : (t184 == 1) = true := beq_iff_eq.mpr c17
                      have c17b1 : (t184 != 1) = false := bne_eq_false_iff_eq.mpr c17
                      clear c17
                      by_cases c18 : t190 = true
                      · subst c18
                        have H1 : (none) = some r := by rw [if_pos rfl] at H; exact H
                        clear H
                        have H := H1
                        clear H1
                        exact absurd H (by simp)
                      · replace c18 := Bool.eq_false_iff.mpr c18
                        subst c18
                        have H1 : ((glebelaw7_awake.f k).bind fun t198 => (some t198)) = some r := by rw [if_neg (show ¬ (false = true) by decide)] at H; exact H
                        clear H
                        have H := H1
                        clear H1
                        replace H := Option.bind_eq_some_iff.mp H
                        obtain ⟨t198, A190, H⟩ := H
                        replace H : (some t198) = some r := H
                        have A19 := Aside0.mk A190
                        clear A190
                        obtain rfl := Option.some.inj H
                        go_enter Try.func10, Try.ntmps10
                        try go_wp2_with (first | ((with_reducible refine gate_dst (N := 23) rfl ?_); refine Kd.R_lit k51 _ 51 ?hg (N := 23) ?hd (xs := ([(⟨(⟨#[]⟩ : ByteArray), 0, 0, 1, 1, 1⟩ : S51), (⟨(⟨#[97]⟩ : ByteArray), 1, 1, 1, 2, 1⟩ : S51), (⟨(⟨#[97, 10]⟩ : ByteArray), 1, 2, 2, 1, 2⟩ : S51), (⟨(⟨#[10]⟩ : ByteArray), 1, 0, 1, 1, 2⟩ : S51), (⟨(⟨#[10, 10]⟩ : ByteArray), 2, 1, 2, 1, 3⟩ : S51), (⟨(⟨#[97, 10, 98]⟩ : ByteArray), 2, 3, 2, 2, 2⟩ : S51), (⟨(⟨#[97, 13, 10, 98, 13, 10]⟩ : ByteArray), 2, 3, 2, 1, 3⟩ : S51), (⟨(⟨#[97, 13, 98]⟩ : ByteArray), 1, 2, 1, 3, 1⟩ : S51), (⟨(⟨#[97, 10, 13, 10]⟩ : ByteArray), 2, 2, 2, 1, 3⟩ : S51), (⟨(⟨#[195, 169, 10]⟩ : ByteArray), 1, 2, 1, 3, 2⟩ : S51)] : List (S51))) (inner := [.string (⟨#[]⟩ : ByteArray), .int .i64 0, .int .i64 0, .int .i64 1, .int .i64 1, .int .i64 1, .string (⟨#[97]⟩ : ByteArray), .int .i64 1, .int .i64 1, .int .i64 1, .int .i64 2, .int .i64 1, .string (⟨#[97, 10]⟩ : ByteArray), .int .i64 1, .int .i64 2, .int .i64 2, .int .i64 1, .int .i64 2, .string (⟨#[10]⟩ : ByteArray), .int .i64 1, .int .i64 0, .int .i64 1, .int .i64 1, .int .i64 2, .string (⟨#[10, 10]⟩ : ByteArray), .int .i64 2, .int .i64 1, .int .i64 2, .int .i64 1, .int .i64 3, .string (⟨#[97, 10, 98]⟩ : ByteArray), .int .i64 2, .int .i64 3, .int .i64 2, .int .i64 2, .int .i64 2, .string (⟨#[97, 13, 10, 98, 13, 10]⟩ : ByteArray), .int .i64 2, .int .i64 3, .int .i64 2, .int .i64 1, .int .i64 3, .string (⟨#[97, 13, 98]⟩ : ByteArray), .int .i64 1, .int .i64 2, .int .i64 1, .int .i64 3, .int .i64 1, .string (⟨#[97, 10, 13, 10]⟩ : ByteArray), .int .i64 2, .int .i64 2, .int .i64 2, .int .i64 1, .int .i64 3, .string (⟨#[195, 169, 10]⟩ : ByteArray), .int .i64 1, .int .i64 2, .int .i64 1, .int .i64 3, .int .i64 2]) (ok := fun _ => True) (okp := fun _ => True) ?hr ?hp (fun _ hk => hk) trivial (Below.refl _ _) (Nat.le_refl _) (by simp) ?_; (case hd => rfl); (case hg => rfl); (case hr => first | (go_simp; done) | (go_simp; rfl)); (case hp => exact (Reps.c6 (show Kd.M k51 _ _ _ (⟨(⟨#[]⟩ : ByteArray), 0, 0, 1, 1, 1⟩ : S51) [.string (⟨#[]⟩ : ByteArray), .int .i64 0, .int .i64 0, .int .i64 1, .int .i64 1, .int .i64 1] from (k51_mkM _ _ _ (⟨(⟨#[]⟩ : ByteArray), 0, 0, 1, 1, 1⟩ : S51) )) (Reps.c6 (show Kd.M k51 _ _ _ (⟨(⟨#[97]⟩ : ByteArray), 1, 1, 1, 2, 1⟩ : S51) [.string (⟨#[97]⟩ : ByteArray), .int .i64 1, .int .i64 1, .int .i64 1, .int .i64 2, .int .i64 1] from (k51_mkM _ _ _ (⟨(⟨#[97]⟩ : ByteArray), 1, 1, 1, 2, 1⟩ : S51) )) (Reps.c6 (show Kd.M k51 _ _ _ (⟨(⟨#[97, 10]⟩ : ByteArray), 1, 2, 2, 1, 2⟩ : S51) [.string (⟨#[97, 10]⟩ : ByteArray), .int .i64 1, .int .i64 2, .int .i64 2, .int .i64 1, .int .i64 2] from (k51_mkM _ _ _ (⟨(⟨#[97, 10]⟩ : ByteArray), 1, 2, 2, 1, 2⟩ : S51) )) (Reps.c6 (show Kd.M k51 _ _ _ (⟨(⟨#[10]⟩ : ByteArray), 1, 0, 1, 1, 2⟩ : S51) [.string (⟨#[10]⟩ : ByteArray), .int .i64 1, .int .i64 0, .int .i64 1, .int .i64 1, .int .i64 2] from (k51_mkM _ _ _ (⟨(⟨#[10]⟩ : ByteArray), 1, 0, 1, 1, 2⟩ : S51) )) (Reps.c6 (show Kd.M k51 _ _ _ (⟨(⟨#[10, 10]⟩ : ByteArray), 2, 1, 2, 1, 3⟩ : S51) [.string (⟨#[10, 10]⟩ : ByteArray), .int .i64 2, .int .i64 1, .int .i64 2, .int .i64 1, .int .i64 3] from (k51_mkM _ _ _ (⟨(⟨#[10, 10]⟩ : ByteArray), 2, 1, 2, 1, 3⟩ : S51) )) (Reps.c6 (show Kd.M k51 _ _ _ (⟨(⟨#[97, 10, 98]⟩ : ByteArray), 2, 3, 2, 2, 2⟩ : S51) [.string (⟨#[97, 10, 98]⟩ : ByteArray), .int .i64 2, .int .i64 3, .int .i64 2, .int .i64 2, .int .i64 2] from (k51_mkM _ _ _ (⟨(⟨#[97, 10, 98]⟩ : ByteArray), 2, 3, 2, 2, 2⟩ : S51) )) (Reps.c6 (show Kd.M k51 _ _ _ (⟨(⟨#[97, 13, 10, 98, 13, 10]⟩ : ByteArray), 2, 3, 2, 1, 3⟩ : S51) [.string (⟨#[97, 13, 10, 98, 13, 10]⟩ : ByteArray), .int .i64 2, .int .i64 3, .int .i64 2, .int .i64 1, .int .i64 3] from (k51_mkM _ _ _ (⟨(⟨#[97, 13, 10, 98, 13, 10]⟩ : ByteArray), 2, 3, 2, 1, 3⟩ : S51) )) (Reps.c6 (show Kd.M k51 _ _ _ (⟨(⟨#[97, 13, 98]⟩ : ByteArray), 1, 2, 1, 3, 1⟩ : S51) [.string (⟨#[97, 13, 98]⟩ : ByteArray), .int .i64 1, .int .i64 2, .int .i64 1, .int .i64 3, .int .i64 1] from (k51_mkM _ _ _ (⟨(⟨#[97, 13, 98]⟩ : ByteArray), 1, 2, 1, 3, 1⟩ : S51) )) (Reps.c6 (show Kd.M k51 _ _ _ (⟨(⟨#[97, 10, 13, 10]⟩ : ByteArray), 2, 2, 2, 1, 3⟩ : S51) [.string (⟨#[97, 10, 13, 10]⟩ : ByteArray), .int .i64 2, .int .i64 2, .int .i64 2, .int .i64 1, .int .i64 3] from (k51_mkM _ _ _ (⟨(⟨#[97, 10, 13, 10]⟩ : ByteArray), 2, 2, 2, 1, 3⟩ : S51) )) (Reps.c6 (show Kd.M k51 _ _ _ (⟨(⟨#[195, 169, 10]⟩ : ByteArray), 1, 2, 1, 3, 2⟩ : S51) [.string (⟨#[195, 169, 10]⟩ : ByteArray), .int .i64 1, .int .i64 2, .int .i64 1, .int .i64 3, .int .i64 2] from (k51_mkM _ _ _ (⟨(⟨#[195, 169, 10]⟩ : ByteArray), 1, 2, 1, 3, 2⟩ : S51) )) (Reps.none _ _)))))))))))); intro v166 w20 ho21 hb hg_ hnew_; clear hg_ hnew_; (first | rw [← Ny165.out] at ho21 | (simp only [Int.reduceToNat] at ho21; rw [← Ny165.out] at ho21)); have n0_ := Aside0.mk (Kd.R_lower ho21 (below_size (by repeat (first | (with_reducible first | exact HB.out | apply below_alloc | apply pw_below_drewN | apply below_drew1) | exact HB.out)))); have n1_ := Aside0.mk (below_step (by repeat (first | (with_reducible first | exact HB.out | apply below_alloc | apply pw_below_drewN | apply below_drew1) | exact HB.out)) hb); clear HB; have HO167 := n0_; have HB := n1_; clear n0_ n1_; clear hb ho21; obtain ⟨Ao22, co22, eo22⟩ := Kd.R_slice HO167.out; subst eo22; have p168 : 0 ≤ ((ji3) : Int) := of_decide_eq_true (by first | (with_reducible assumption) | assumption); have q168 : (ji3) < (y165.length : Int) := of_decide_eq_true (by first | (with_reducible assumption) | assumption); obtain ⟨ad168, e168, hx168_0, hx168_1, hx168_2, hx168_3, hx168_4, hx168_5⟩ := at_T51 (Kd.R_reads' HO167.out).2.2 (ji3) p168 q168; cases e168; replace p168 := eq_true p168; replace q168 := eq_true q168) | ((with_reducible refine gate_dst (N := 4) rfl ?_); refine box_event ?hg (N := 4) ?hd (cs := #[.string (⟨#[]⟩ : ByteArray), .int .i64 0, .int .i64 0, .int .i64 0, .int .i64 0, .int .i64 0]) (t := 51) ?hr ?_; (case hd => rfl); (case hg => rfl); (case hr => first | (go_simp; done) | (go_simp; rfl)); intro gb169 hg w23 hbox hb; have n0_ := Aside0.mk (Kd.R_below (Kd.R_elderB (by (with_reducible repeat (first | apply Kd.R_alloc | apply Kd.R_drewN | apply Kd.R_drew)); exact HO167.out) gb169 (Nat.le_of_eq hg.symm)) hb); have n1_ := Aside0.mk (below_step (by repeat (first | (with_reducible first | exact HB.out | apply below_alloc | apply pw_below_drewN | apply below_drew1) | exact HB.out)) hb); have n2_ := Aside0.mk (hbox); have n3_ := Aside0.mk ((by rw [hg]; exact (below_size (by repeat (first | (with_reducible first | exact HB.out | apply below_alloc | apply pw_below_drewN | apply below_drew1) | exact HB.out))) : w.heap.size ≤ gb169)); have n4_ := Aside0.mk ((by rw [hg]; exact (below_size (by repeat (first | (with_reducible first | exact HB.out | apply below_alloc | apply pw_below_drewN | apply below_drew1) | exact HB.out))) : w.heap.size ≤ gb169)); clear HO167; clear HB; have HO167 := n0_; have HB := n1_; have BK169 := n2_; have GW169 := n3_; have GE169 := n4_; clear n0_ n1_ n2_ n3_ n4_; clear hb hbox hg; have hcz24_0 : w23.cell? ⟨gb169, 0, none⟩ = some (.string (⟨#[]⟩ : ByteArray)) := (blk_cell BK169.out 0).trans rfl; have hcz24_1 : w23.cell? ⟨gb169, 1, none⟩ = some (.int .i64 0) := (blk_cell BK169.out 1).trans rfl; have hcz24_2 : w23.cell? ⟨gb169, 2, none⟩ = some (.int .i64 0) := (blk_cell BK169.out 2).trans rfl; have hcz24_3 : w23.cell? ⟨gb169, 3, none⟩ = some (.int .i64 0) := (blk_cell BK169.out 3).trans rfl; have hcz24_4 : w23.cell? ⟨gb169, 4, none⟩ = some (.int .i64 0) := (blk_cell BK169.out 4).trans rfl; have hcz24_5 : w23.cell? ⟨gb169, 5, none⟩ = some (.int .i64 0) := (blk_cell BK169.out 5).trans rfl; have hfz24_0 := blk_frozen BK169.out 0; have hfz24_1 := blk_frozen BK169.out 1; have hfz24_2 := blk_frozen BK169.out 2; have hfz24_3 := blk_frozen BK169.out 3; have hfz24_4 := blk_frozen BK169.out 4; have hfz24_5 := blk_frozen BK169.out 5) | ((with_reducible refine gate_dst (N := 35) rfl ?_); refine XW.V_bytes _ 5 rfl (N := 35) rfl 9 29 _ rfl ((rd_T51 y165 (ji3)).f0) rfl Try.underlying9 Try.underlying29 Try.underlying5 (by have h_ : ((rd_T51 y165 (ji3)).f0).size ≤ 9223372036854775807 := of_decide_eq_true (by first | (with_reducible assumption) | assumption); first | exact h_ | (simp only [ByteArray.size_append]; exact h_)) (ok := (fun k_ => some k_ ≠ (.slice (some ad168) y165.length co22 : Value).ownBlock ∧ k_ ≠ gb169)) (fun k_ hk => ⟨Kd.fresh' (Kd.R_lt (by (with_reducible repeat (first | apply Kd.R_alloc | apply Kd.R_drewN | apply Kd.R_drew)); exact (Kd.R_mono (Kd.R_far (p := ⟨gb169, 5, none⟩) (Kd.R_far (p := ⟨gb169, 4, none⟩) (Kd.R_far (p := ⟨gb169, 3, none⟩) (Kd.R_far (p := ⟨gb169, 2, none⟩) (Kd.R_far (p := ⟨gb169, 1, none⟩) (Kd.R_far (p := ⟨gb169, 0, none⟩) (Kd.R_mono HO167.out (fun k_ hk => (⟨hk, hk.2⟩ : _ ∧ k_ ≠ gb169))) (fun _ hk => hk.2) (.string ((rd_T51 y165 (ji3)).f0))) (fun _ hk => hk.2) (.int .i64 ((rd_T51 y165 (ji3)).f1))) (fun _ hk => hk.2) (.int .i64 ((rd_T51 y165 (ji3)).f2))) (fun _ hk => hk.2) (.int .i64 ((rd_T51 y165 (ji3)).f3))) (fun _ hk => hk.2) (.int .i64 ((rd_T51 y165 (ji3)).f4))) (fun _ hk => hk.2) (.int .i64 ((rd_T51 y165 (ji3)).f5))) (fun _ h_ => h_.1)))) k_ hk, Kd.freshB (g := gb169) (o := .cells #[.string ((rd_T51 y165 (ji3)).f0), .int .i64 ((rd_T51 y165 (ji3)).f1), .int .i64 ((rd_T51 y165 (ji3)).f2), .int .i64 ((rd_T51 y165 (ji3)).f3), .int .i64 ((rd_T51 y165 (ji3)).f4), .int .i64 ((rd_T51 y165 (ji3)).f5)] 51 (0, 0)) (by (with_reducible repeat (first | refine blk_drewN ?_ _ | refine blk_drew ?_ | refine blk_alloc ?_ _)); refine blk_put (cs := #[.string ((rd_T51 y165 (ji3)).f0), .int .i64 ((rd_T51 y165 (ji3)).f1), .int .i64 ((rd_T51 y165 (ji3)).f2), .int .i64 ((rd_T51 y165 (ji3)).f3), .int .i64 ((rd_T51 y165 (ji3)).f4), .int .i64 0]) ?_ 5 _ rfl; (with_reducible repeat (first | refine blk_drewN ?_ _ | refine blk_drew ?_ | refine blk_alloc ?_ _)); refine blk_put (cs := #[.string ((rd_T51 y165 (ji3)).f0), .int .i64 ((rd_T51 y165 (ji3)).f1), .int .i64 ((rd_T51 y165 (ji3)).f2), .int .i64 ((rd_T51 y165 (ji3)).f3), .int .i64 0, .int .i64 0]) ?_ 4 _ rfl; (with_reducible repeat (first | refine blk_drewN ?_ _ | refine blk_drew ?_ | refine blk_alloc ?_ _)); refine blk_put (cs := #[.string ((rd_T51 y165 (ji3)).f0), .int .i64 ((rd_T51 y165 (ji3)).f1), .int .i64 ((rd_T51 y165 (ji3)).f2), .int .i64 0, .int .i64 0, .int .i64 0]) ?_ 3 _ rfl; (with_reducible repeat (first | refine blk_drewN ?_ _ | refine blk_drew ?_ | refine blk_alloc ?_ _)); refine blk_put (cs := #[.string ((rd_T51 y165 (ji3)).f0), .int .i64 ((rd_T51 y165 (ji3)).f1), .int .i64 0, .int .i64 0, .int .i64 0, .int .i64 0]) ?_ 2 _ rfl; (with_reducible repeat (first | refine blk_drewN ?_ _ | refine blk_drew ?_ | refine blk_alloc ?_ _)); refine blk_put (cs := #[.string ((rd_T51 y165 (ji3)).f0), .int .i64 0, .int .i64 0, .int .i64 0, .int .i64 0, .int .i64 0]) ?_ 1 _ rfl; (with_reducible repeat (first | refine blk_drewN ?_ _ | refine blk_drew ?_ | refine blk_alloc ?_ _)); refine blk_put (cs := #[.string (⟨#[]⟩ : ByteArray), .int .i64 0, .int .i64 0, .int .i64 0, .int .i64 0, .int .i64 0]) ?_ 0 _ rfl; (with_reducible repeat (first | refine blk_drewN ?_ _ | refine blk_drew ?_ | refine blk_alloc ?_ _)); exact BK169.out) k_ hk⟩) (Below.refl _ _) (Nat.le_refl _) ?_; intro v171 w25 ho26 hb hg_ hnew_; clear hg_ hnew_; (first | rw [← Ny170.out] at ho26 | (simp only [Int.reduceToNat] at ho26; rw [← Ny170.out] at ho26)); have n0_ := Aside0.mk (Kd.R_below (by (with_reducible repeat (first | apply Kd.R_alloc | apply Kd.R_drewN | apply Kd.R_drew)); exact (Kd.R_mono (Kd.R_far (p := ⟨gb169, 5, none⟩) (Kd.R_far (p := ⟨gb169, 4, none⟩) (Kd.R_far (p := ⟨gb169, 3, none⟩) (Kd.R_far (p := ⟨gb169, 2, none⟩) (Kd.R_far (p := ⟨gb169, 1, none⟩) (Kd.R_far (p := ⟨gb169, 0, none⟩) (Kd.R_mono HO167.out (fun k_ hk => (⟨hk, hk.2⟩ : _ ∧ k_ ≠ gb169))) (fun _ hk => hk.2) (.string ((rd_T51 y165 (ji3)).f0))) (fun _ hk => hk.2) (.int .i64 ((rd_T51 y165 (ji3)).f1))) (fun _ hk => hk.2) (.int .i64 ((rd_T51 y165 (ji3)).f2))) (fun _ hk => hk.2) (.int .i64 ((rd_T51 y165 (ji3)).f3))) (fun _ hk => hk.2) (.int .i64 ((rd_T51 y165 (ji3)).f4))) (fun _ hk => hk.2) (.int .i64 ((rd_T51 y165 (ji3)).f5))) (fun _ h_ => h_.1))) hb); have n1_ := Aside0.mk (Kd.V_lower ho26 (below_size (by repeat (first | (with_reducible first | exact HB.out | apply below_alloc | apply pw_below_drewN | apply below_drew1 | refine below_set ?_ GE169.out) | exact HB.out)))); have n2_ := Aside0.mk (blk_below (g := gb169) (o := .cells #[.string ((rd_T51 y165 (ji3)).f0), .int .i64 ((rd_T51 y165 (ji3)).f1), .int .i64 ((rd_T51 y165 (ji3)).f2), .int .i64 ((rd_T51 y165 (ji3)).f3), .int .i64 ((rd_T51 y165 (ji3)).f4), .int .i64 ((rd_T51 y165 (ji3)).f5)] 51 (0, 0)) (by (with_reducible repeat (first | refine blk_drewN ?_ _ | refine blk_drew ?_ | refine blk_alloc ?_ _)); refine blk_put (cs := #[.string ((rd_T51 y165 (ji3)).f0), .int .i64 ((rd_T51 y165 (ji3)).f1), .int .i64 ((rd_T51 y165 (ji3)).f2), .int .i64 ((rd_T51 y165 (ji3)).f3), .int .i64 ((rd_T51 y165 (ji3)).f4), .int .i64 0]) ?_ 5 _ rfl; (with_reducible repeat (first | refine blk_drewN ?_ _ | refine blk_drew ?_ | refine blk_alloc ?_ _)); refine blk_put (cs := #[.string ((rd_T51 y165 (ji3)).f0), .int .i64 ((rd_T51 y165 (ji3)).f1), .int .i64 ((rd_T51 y165 (ji3)).f2), .int .i64 ((rd_T51 y165 (ji3)).f3), .int .i64 0, .int .i64 0]) ?_ 4 _ rfl; (with_reducible repeat (first | refine blk_drewN ?_ _ | refine blk_drew ?_ | refine blk_alloc ?_ _)); refine blk_put (cs := #[.string ((rd_T51 y165 (ji3)).f0), .int .i64 ((rd_T51 y165 (ji3)).f1), .int .i64 ((rd_T51 y165 (ji3)).f2), .int .i64 0, .int .i64 0, .int .i64 0]) ?_ 3 _ rfl; (with_reducible repeat (first | refine blk_drewN ?_ _ | refine blk_drew ?_ | refine blk_alloc ?_ _)); refine blk_put (cs := #[.string ((rd_T51 y165 (ji3)).f0), .int .i64 ((rd_T51 y165 (ji3)).f1), .int .i64 0, .int .i64 0, .int .i64 0, .int .i64 0]) ?_ 2 _ rfl; (with_reducible repeat (first | refine blk_drewN ?_ _ | refine blk_drew ?_ | refine blk_alloc ?_ _)); refine blk_put (cs := #[.string ((rd_T51 y165 (ji3)).f0), .int .i64 0, .int .i64 0, .int .i64 0, .int .i64 0, .int .i64 0]) ?_ 1 _ rfl; (with_reducible repeat (first | refine blk_drewN ?_ _ | refine blk_drew ?_ | refine blk_alloc ?_ _)); refine blk_put (cs := #[.string (⟨#[]⟩ : ByteArray), .int .i64 0, .int .i64 0, .int .i64 0, .int .i64 0, .int .i64 0]) ?_ 0 _ rfl; (with_reducible repeat (first | refine blk_drewN ?_ _ | refine blk_drew ?_ | refine blk_alloc ?_ _)); exact BK169.out) hb); have n3_ := Aside0.mk (below_step (by repeat (first | (with_reducible first | exact HB.out | apply below_alloc | apply pw_below_drewN | apply below_drew1 | refine below_set ?_ GE169.out) | exact HB.out)) hb); clear HO167; clear BK169; clear HB; have HO167 := n0_; have HO172 := n1_; have BK169 := n2_; have HB := n3_; clear n0_ n1_ n2_ n3_; clear hb ho26; have hcz27_0 : w25.cell? ⟨gb169, 0, none⟩ = some (.string ((rd_T51 y165 (ji3)).f0)) := (blk_cell BK169.out 0).trans rfl; have hcz27_1 : w25.cell? ⟨gb169, 1, none⟩ = some (.int .i64 ((rd_T51 y165 (ji3)).f1)) := (blk_cell BK169.out 1).trans rfl; have hcz27_2 : w25.cell? ⟨gb169, 2, none⟩ = some (.int .i64 ((rd_T51 y165 (ji3)).f2)) := (blk_cell BK169.out 2).trans rfl; have hcz27_3 : w25.cell? ⟨gb169, 3, none⟩ = some (.int .i64 ((rd_T51 y165 (ji3)).f3)) := (blk_cell BK169.out 3).trans rfl; have hcz27_4 : w25.cell? ⟨gb169, 4, none⟩ = some (.int .i64 ((rd_T51 y165 (ji3)).f4)) := (blk_cell BK169.out 4).trans rfl; have hcz27_5 : w25.cell? ⟨gb169, 5, none⟩ = some (.int .i64 ((rd_T51 y165 (ji3)).f5)) := (blk_cell BK169.out 5).trans rfl; have hfz27_0 := blk_frozen BK169.out 0; have hfz27_1 := blk_frozen BK169.out 1; have hfz27_2 := blk_frozen BK169.out 2; have hfz27_3 := blk_frozen BK169.out 3; have hfz27_4 := blk_frozen BK169.out 4; have hfz27_5 := blk_frozen BK169.out 5; obtain ⟨Ao28, co28, eo28⟩ := Kd.V_slice HO172.out; subst eo28) | ((with_reducible refine gate_callee (f := 25) rfl ?_); refine goesL_ (some 38) rfl rfl Try.func25 (by kernel_rfl) rfl #[.slice Ao28 y170.length co28, .int .i64 ((rd_T51 y165 (ji3)).f2)] rfl (by (try simp only [List.map_toArray, List.map_cons, List.map_nil]); first | done | (simp only [hji3]; rfl) | rfl | (simp only [List.length_drop, List.length_take]; rfl)) ?_; (with_reducible refine (scan_Where.calls k _ _ y170 ((rd_T51 y165 (ji3)).f2) t173 t174 _ ?side1 ?side2 A7.out).mono ?_); (case side1 => repeat (first | exact (Kd.V_reads' HO172.out).2.2 | (with_reducible refine Kd.C_alloc ?_ _) | (with_reducible refine Kd.C_drewN ?_ _) | (with_reducible refine Kd.C_drew ?_))); (case side2 => exact (Kd.V_reads' HO172.out).2.1); rintro e w29 ⟨rfl, hb⟩; refine ⟨_, rfl, ?_⟩; have n0_ := Aside0.mk (Kd.R_below (by (with_reducible repeat (first | apply Kd.R_alloc | apply Kd.R_drewN | apply Kd.R_drew)); exact HO167.out) hb); have n1_ := Aside0.mk (Kd.V_below (by (with_reducible repeat (first | apply Kd.V_alloc | apply Kd.V_drewN | apply Kd.V_drew)); exact HO172.out) hb); have n2_ := Aside0.mk (blk_below (g := gb169) (o := .cells #[.string ((rd_T51 y165 (ji3)).f0), .int .i64 ((rd_T51 y165 (ji3)).f1), .int .i64 ((rd_T51 y165 (ji3)).f2), .int .i64 ((rd_T51 y165 (ji3)).f3), .int .i64 ((rd_T51 y165 (ji3)).f4), .int .i64 ((rd_T51 y165 (ji3)).f5)] 51 (0, 0)) (by (with_reducible repeat (first | refine blk_drewN ?_ _ | refine blk_drew ?_ | refine blk_alloc ?_ _)); exact BK169.out) hb); have n3_ := Aside0.mk (below_step (by repeat (first | (with_reducible first | exact HB.out | apply below_alloc | apply pw_below_drewN | apply below_drew1 | refine below_set ?_ GE169.out) | exact HB.out)) hb); clear HO167; clear HO172; clear BK169; clear HB; have HO167 := n0_; have HO172 := n1_; have BK169 := n2_; have HB := n3_; clear n0_ n1_ n2_ n3_; (try clear hb); (try clear hb2); (try clear hk); (try clear hi); have hcz30_0 : w29.cell? ⟨gb169, 0, none⟩ = some (.string ((rd_T51 y165 (ji3)).f0)) := (blk_cell BK169.out 0).trans rfl; have hcz30_1 : w29.cell? ⟨gb169, 1, none⟩ = some (.int .i64 ((rd_T51 y165 (ji3)).f1)) := (blk_cell BK169.out 1).trans rfl; have hcz30_2 : w29.cell? ⟨gb169, 2, none⟩ = some (.int .i64 ((rd_T51 y165 (ji3)).f2)) := (blk_cell BK169.out 2).trans rfl; have hcz30_3 : w29.cell? ⟨gb169, 3, none⟩ = some (.int .i64 ((rd_T51 y165 (ji3)).f3)) := (blk_cell BK169.out 3).trans rfl; have hcz30_4 : w29.cell? ⟨gb169, 4, none⟩ = some (.int .i64 ((rd_T51 y165 (ji3)).f4)) := (blk_cell BK169.out 4).trans rfl; have hcz30_5 : w29.cell? ⟨gb169, 5, none⟩ = some (.int .i64 ((rd_T51 y165 (ji3)).f5)) := (blk_cell BK169.out 5).trans rfl; have hfz30_0 := blk_frozen BK169.out 0; have hfz30_1 := blk_frozen BK169.out 1; have hfz30_2 := blk_frozen BK169.out 2; have hfz30_3 := blk_frozen BK169.out 3; have hfz30_4 := blk_frozen BK169.out 4; have hfz30_5 := blk_frozen BK169.out 5) | ((with_reducible refine gate_dst (N := 44) rfl ?_); refine XW.V_bytes _ 5 rfl (N := 44) rfl 9 29 _ rfl ((rd_T51 y165 (ji3)).f0) rfl Try.underlying9 Try.underlying29 Try.underlying5 (by have h_ : ((rd_T51 y165 (ji3)).f0).size ≤ 9223372036854775807 := of_decide_eq_true (by first | (with_reducible assumption) | assumption); first | exact h_ | (simp only [ByteArray.size_append]; exact h_)) (ok := (fun k_ => some k_ ≠ (.slice (some ad168) y165.length co22 : Value).ownBlock ∧ k_ ≠ gb169)) (fun k_ hk => ⟨Kd.fresh' (Kd.R_lt (by (with_reducible repeat (first | apply Kd.R_alloc | apply Kd.R_drewN | apply Kd.R_drew)); exact HO167.out)) k_ hk, Kd.freshB (g := gb169) (o := .cells #[.string ((rd_T51 y165 (ji3)).f0), .int .i64 ((rd_T51 y165 (ji3)).f1), .int .i64 ((rd_T51 y165 (ji3)).f2), .int .i64 ((rd_T51 y165 (ji3)).f3), .int .i64 ((rd_T51 y165 (ji3)).f4), .int .i64 ((rd_T51 y165 (ji3)).f5)] 51 (0, 0)) (by (with_reducible repeat (first | refine blk_drewN ?_ _ | refine blk_drew ?_ | refine blk_alloc ?_ _)); exact BK169.out) k_ hk⟩) (Below.refl _ _) (Nat.le_refl _) ?_; intro v176 w31 ho32 hb hg_ hnew_; clear hg_ hnew_; (first | rw [← Ny175.out] at ho32 | (simp only [Int.reduceToNat] at ho32; rw [← Ny175.out] at ho32)); have n0_ := Aside0.mk (Kd.R_below (by (with_reducible repeat (first | apply Kd.R_alloc | apply Kd.R_drewN | apply Kd.R_drew)); exact HO167.out) hb); have n1_ := Aside0.mk (Kd.V_below (by (with_reducible repeat (first | apply Kd.V_alloc | apply Kd.V_drewN | apply Kd.V_drew)); exact HO172.out) hb); have n2_ := Aside0.mk (Kd.V_lower ho32 (below_size (by repeat (first | (with_reducible first | exact HB.out | apply below_alloc | apply pw_below_drewN | apply below_drew1 | refine below_set ?_ GE169.out) | exact HB.out)))); have n3_ := Aside0.mk (blk_below (g := gb169) (o := .cells #[.string ((rd_T51 y165 (ji3)).f0), .int .i64 ((rd_T51 y165 (ji3)).f1), .int .i64 ((rd_T51 y165 (ji3)).f2), .int .i64 ((rd_T51 y165 (ji3)).f3), .int .i64 ((rd_T51 y165 (ji3)).f4), .int .i64 ((rd_T51 y165 (ji3)).f5)] 51 (0, 0)) (by (with_reducible repeat (first | refine blk_drewN ?_ _ | refine blk_drew ?_ | refine blk_alloc ?_ _)); exact BK169.out) hb); have n4_ := Aside0.mk (below_step (by repeat (first | (with_reducible first | exact HB.out | apply below_alloc | apply pw_below_drewN | apply below_drew1 | refine below_set ?_ GE169.out) | exact HB.out)) hb); clear HO167; clear HO172; clear BK169; clear HB; have HO167 := n0_; have HO172 := n1_; have HO177 := n2_; have BK169 := n3_; have HB := n4_; clear n0_ n1_ n2_ n3_ n4_; clear hb ho32; obtain ⟨Ao33, co33, eo33⟩ := Kd.V_slice HO177.out; subst eo33) | ((with_reducible refine gate_callee (f := 25) rfl ?_); refine goesL_ (some 45) rfl rfl Try.func25 (by kernel_rfl) rfl #[.slice Ao33 y175.length co33, .int .i64 1000] rfl (by (try simp only [List.map_toArray, List.map_cons, List.map_nil]); first | done | rfl | (simp only [List.length_drop, List.length_take]; rfl)) ?_; (with_reducible refine (scan_Where.calls k _ _ y175 1000 t178 t179 _ ?side1 ?side2 A8.out).mono ?_); (case side1 => repeat (first | exact (Kd.V_reads' HO177.out).2.2 | (with_reducible refine Kd.C_alloc ?_ _) | (with_reducible refine Kd.C_drewN ?_ _) | (with_reducible refine Kd.C_drew ?_))); (case side2 => exact (Kd.V_reads' HO177.out).2.1); rintro e w34 ⟨rfl, hb⟩; refine ⟨_, rfl, ?_⟩; have n0_ := Aside0.mk (Kd.R_below (by (with_reducible repeat (first | apply Kd.R_alloc | apply Kd.R_drewN | apply Kd.R_drew)); exact HO167.out) hb); have n1_ := Aside0.mk (Kd.V_below (by (with_reducible repeat (first | apply Kd.V_alloc | apply Kd.V_drewN | apply Kd.V_drew)); exact HO172.out) hb); have n2_ := Aside0.mk (Kd.V_below (by (with_reducible repeat (first | apply Kd.V_alloc | apply Kd.V_drewN | apply Kd.V_drew)); exact HO177.out) hb); have n3_ := Aside0.mk (blk_below (g := gb169) (o := .cells #[.string ((rd_T51 y165 (ji3)).f0), .int .i64 ((rd_T51 y165 (ji3)).f1), .int .i64 ((rd_T51 y165 (ji3)).f2), .int .i64 ((rd_T51 y165 (ji3)).f3), .int .i64 ((rd_T51 y165 (ji3)).f4), .int .i64 ((rd_T51 y165 (ji3)).f5)] 51 (0, 0)) (by (with_reducible repeat (first | refine blk_drewN ?_ _ | refine blk_drew ?_ | refine blk_alloc ?_ _)); exact BK169.out) hb); have n4_ := Aside0.mk (below_step (by repeat (first | (with_reducible first | exact HB.out | apply below_alloc | apply pw_below_drewN | apply below_drew1 | refine below_set ?_ GE169.out) | exact HB.out)) hb); clear HO167; clear HO172; clear HO177; clear BK169; clear HB; have HO167 := n0_; have HO172 := n1_; have HO177 := n2_; have BK169 := n3_; have HB := n4_; clear n0_ n1_ n2_ n3_ n4_; (try clear hb); (try clear hb2); (try clear hk); (try clear hi); have hcz35_0 : w34.cell? ⟨gb169, 0, none⟩ = some (.string ((rd_T51 y165 (ji3)).f0)) := (blk_cell BK169.out 0).trans rfl; have hcz35_1 : w34.cell? ⟨gb169, 1, none⟩ = some (.int .i64 ((rd_T51 y165 (ji3)).f1)) := (blk_cell BK169.out 1).trans rfl; have hcz35_2 : w34.cell? ⟨gb169, 2, none⟩ = some (.int .i64 ((rd_T51 y165 (ji3)).f2)) := (blk_cell BK169.out 2).trans rfl; have hcz35_3 : w34.cell? ⟨gb169, 3, none⟩ = some (.int .i64 ((rd_T51 y165 (ji3)).f3)) := (blk_cell BK169.out 3).trans rfl; have hcz35_4 : w34.cell? ⟨gb169, 4, none⟩ = some (.int .i64 ((rd_T51 y165 (ji3)).f4)) := (blk_cell BK169.out 4).trans rfl; have hcz35_5 : w34.cell? ⟨gb169, 5, none⟩ = some (.int .i64 ((rd_T51 y165 (ji3)).f5)) := (blk_cell BK169.out 5).trans rfl; have hfz35_0 := blk_frozen BK169.out 0; have hfz35_1 := blk_frozen BK169.out 1; have hfz35_2 := blk_frozen BK169.out 2; have hfz35_3 := blk_frozen BK169.out 3; have hfz35_4 := blk_frozen BK169.out 4; have hfz35_5 := blk_frozen BK169.out 5) | ((with_reducible refine gate_dst (N := 51) rfl ?_); refine XW.V_bytes _ 5 rfl (N := 51) rfl 9 29 _ rfl ((rd_T51 y165 (ji3)).f0) rfl Try.underlying9 Try.underlying29 Try.underlying5 (by have h_ : ((rd_T51 y165 (ji3)).f0).size ≤ 9223372036854775807 := of_decide_eq_true (by first | (with_reducible assumption) | assumption); first | exact h_ | (simp only [ByteArray.size_append]; exact h_)) (ok := (fun k_ => some k_ ≠ (.slice (some ad168) y165.length co22 : Value).ownBlock ∧ k_ ≠ gb169)) (fun k_ hk => ⟨Kd.fresh' (Kd.R_lt (by (with_reducible repeat (first | apply Kd.R_alloc | apply Kd.R_drewN | apply Kd.R_drew)); exact HO167.out)) k_ hk, Kd.freshB (g := gb169) (o := .cells #[.string ((rd_T51 y165 (ji3)).f0), .int .i64 ((rd_T51 y165 (ji3)).f1), .int .i64 ((rd_T51 y165 (ji3)).f2), .int .i64 ((rd_T51 y165 (ji3)).f3), .int .i64 ((rd_T51 y165 (ji3)).f4), .int .i64 ((rd_T51 y165 (ji3)).f5)] 51 (0, 0)) (by (with_reducible repeat (first | refine blk_drewN ?_ _ | refine blk_drew ?_ | refine blk_alloc ?_ _)); exact BK169.out) k_ hk⟩) (Below.refl _ _) (Nat.le_refl _) ?_; intro v181 w36 ho37 hb hg_ hnew_; clear hg_ hnew_; (first | rw [← Ny180.out] at ho37 | (simp only [Int.reduceToNat] at ho37; rw [← Ny180.out] at ho37)); have n0_ := Aside0.mk (Kd.R_below (by (with_reducible repeat (first | apply Kd.R_alloc | apply Kd.R_drewN | apply Kd.R_drew)); exact HO167.out) hb); have n1_ := Aside0.mk (Kd.V_below (by (with_reducible repeat (first | apply Kd.V_alloc | apply Kd.V_drewN | apply Kd.V_drew)); exact HO172.out) hb); have n2_ := Aside0.mk (Kd.V_below (by (with_reducible repeat (first | apply Kd.V_alloc | apply Kd.V_drewN | apply Kd.V_drew)); exact HO177.out) hb); have n3_ := Aside0.mk (Kd.V_lower ho37 (below_size (by repeat (first | (with_reducible first | exact HB.out | apply below_alloc | apply pw_below_drewN | apply below_drew1 | refine below_set ?_ GE169.out) | exact HB.out)))); have n4_ := Aside0.mk (blk_below (g := gb169) (o := .cells #[.string ((rd_T51 y165 (ji3)).f0), .int .i64 ((rd_T51 y165 (ji3)).f1), .int .i64 ((rd_T51 y165 (ji3)).f2), .int .i64 ((rd_T51 y165 (ji3)).f3), .int .i64 ((rd_T51 y165 (ji3)).f4), .int .i64 ((rd_T51 y165 (ji3)).f5)] 51 (0, 0)) (by (with_reducible repeat (first | refine blk_drewN ?_ _ | refine blk_drew ?_ | refine blk_alloc ?_ _)); exact BK169.out) hb); have n5_ := Aside0.mk (below_step (by repeat (first | (with_reducible first | exact HB.out | apply below_alloc | apply pw_below_drewN | apply below_drew1 | refine below_set ?_ GE169.out) | exact HB.out)) hb); clear HO167; clear HO172; clear HO177; clear BK169; clear HB; have HO167 := n0_; have HO172 := n1_; have HO177 := n2_; have HO182 := n3_; have BK169 := n4_; have HB := n5_; clear n0_ n1_ n2_ n3_ n4_ n5_; clear hb ho37; obtain ⟨Ao38, co38, eo38⟩ := Kd.V_slice HO182.out; subst eo38) | ((with_reducible refine gate_callee (f := 25) rfl ?_); refine goesL_ (some 52) rfl rfl Try.func25 (by kernel_rfl) rfl #[.slice Ao38 y180.length co38, .int .i64 (-5)] rfl (by (try simp only [List.map_toArray, List.map_cons, List.map_nil]); first | done | rfl | (simp only [List.length_drop, List.length_take]; rfl)) ?_; (with_reducible refine (scan_Where.calls k _ _ y180 (-5) t183 t184 _ ?side1 ?side2 A9.out).mono ?_); (case side1 => repeat (first | exact (Kd.V_reads' HO182.out).2.2 | (with_reducible refine Kd.C_alloc ?_ _) | (with_reducible refine Kd.C_drewN ?_ _) | (with_reducible refine Kd.C_drew ?_))); (case side2 => exact (Kd.V_reads' HO182.out).2.1); rintro e w39 ⟨rfl, hb⟩; refine ⟨_, rfl, ?_⟩; have n0_ := Aside0.mk (Kd.R_below (by (with_reducible repeat (first | apply Kd.R_alloc | apply Kd.R_drewN | apply Kd.R_drew)); exact HO167.out) hb); have n1_ := Aside0.mk (Kd.V_below (by (with_reducible repeat (first | apply Kd.V_alloc | apply Kd.V_drewN | apply Kd.V_drew)); exact HO172.out) hb); have n2_ := Aside0.mk (Kd.V_below (by (with_reducible repeat (first | apply Kd.V_alloc | apply Kd.V_drewN | apply Kd.V_drew)); exact HO177.out) hb); have n3_ := Aside0.mk (Kd.V_below (by (with_reducible repeat (first | apply Kd.V_alloc | apply Kd.V_drewN | apply Kd.V_drew)); exact HO182.out) hb); have n4_ := Aside0.mk (blk_below (g := gb169) (o := .cells #[.string ((rd_T51 y165 (ji3)).f0), .int .i64 ((rd_T51 y165 (ji3)).f1), .int .i64 ((rd_T51 y165 (ji3)).f2), .int .i64 ((rd_T51 y165 (ji3)).f3), .int .i64 ((rd_T51 y165 (ji3)).f4), .int .i64 ((rd_T51 y165 (ji3)).f5)] 51 (0, 0)) (by (with_reducible repeat (first | refine blk_drewN ?_ _ | refine blk_drew ?_ | refine blk_alloc ?_ _)); exact BK169.out) hb); have n5_ := Aside0.mk (below_step (by repeat (first | (with_reducible first | exact HB.out | apply below_alloc | apply pw_below_drewN | apply below_drew1 | refine below_set ?_ GE169.out) | exact HB.out)) hb); clear HO167; clear HO172; clear HO177; clear HO182; clear BK169; clear HB; have HO167 := n0_; have HO172 := n1_; have HO177 := n2_; have HO182 := n3_; have BK169 := n4_; have HB := n5_; clear n0_ n1_ n2_ n3_ n4_ n5_; (try clear hb); (try clear hb2); (try clear hk); (try clear hi); have hcz40_0 : w39.cell? ⟨gb169, 0, none⟩ = some (.string ((rd_T51 y165 (ji3)).f0)) := (blk_cell BK169.out 0).trans rfl; have hcz40_1 : w39.cell? ⟨gb169, 1, none⟩ = some (.int .i64 ((rd_T51 y165 (ji3)).f1)) := (blk_cell BK169.out 1).trans rfl; have hcz40_2 : w39.cell? ⟨gb169, 2, none⟩ = some (.int .i64 ((rd_T51 y165 (ji3)).f2)) := (blk_cell BK169.out 2).trans rfl; have hcz40_3 : w39.cell? ⟨gb169, 3, none⟩ = some (.int .i64 ((rd_T51 y165 (ji3)).f3)) := (blk_cell BK169.out 3).trans rfl; have hcz40_4 : w39.cell? ⟨gb169, 4, none⟩ = some (.int .i64 ((rd_T51 y165 (ji3)).f4)) := (blk_cell BK169.out 4).trans rfl; have hcz40_5 : w39.cell? ⟨gb169, 5, none⟩ = some (.int .i64 ((rd_T51 y165 (ji3)).f5)) := (blk_cell BK169.out 5).trans rfl; have hfz40_0 := blk_frozen BK169.out 0; have hfz40_1 := blk_frozen BK169.out 1; have hfz40_2 := blk_frozen BK169.out 2; have hfz40_3 := blk_frozen BK169.out 3; have hfz40_4 := blk_frozen BK169.out 4; have hfz40_5 := blk_frozen BK169.out 5) | ((with_reducible refine gate_dst (N := 58) rfl ?_); refine XW.V_bytes _ 5 rfl (N := 58) rfl 9 29 _ rfl ((rd_T51 y165 (ji3)).f0) rfl Try.underlying9 Try.underlying29 Try.underlying5 (by have h_ : ((rd_T51 y165 (ji3)).f0).size ≤ 9223372036854775807 := of_decide_eq_true (by first | (with_reducible assumption) | assumption); first | exact h_ | (simp only [ByteArray.size_append]; exact h_)) (ok := (fun k_ => some k_ ≠ (.slice (some ad168) y165.length co22 : Value).ownBlock ∧ k_ ≠ gb169)) (fun k_ hk => ⟨Kd.fresh' (Kd.R_lt (by (with_reducible repeat (first | apply Kd.R_alloc | apply Kd.R_drewN | apply Kd.R_drew)); exact HO167.out)) k_ hk, Kd.freshB (g := gb169) (o := .cells #[.string ((rd_T51 y165 (ji3)).f0), .int .i64 ((rd_T51 y165 (ji3)).f1), .int .i64 ((rd_T51 y165 (ji3)).f2), .int .i64 ((rd_T51 y165 (ji3)).f3), .int .i64 ((rd_T51 y165 (ji3)).f4), .int .i64 ((rd_T51 y165 (ji3)).f5)] 51 (0, 0)) (by (with_reducible repeat (first | refine blk_drewN ?_ _ | refine blk_drew ?_ | refine blk_alloc ?_ _)); exact BK169.out) k_ hk⟩) (Below.refl _ _) (Nat.le_refl _) ?_; intro v186 w41 ho42 hb hg_ hnew_; clear hg_ hnew_; (first | rw [← Ny185.out] at ho42 | (simp only [Int.reduceToNat] at ho42; rw [← Ny185.out] at ho42)); have n0_ := Aside0.mk (Kd.R_below (by (with_reducible repeat (first | apply Kd.R_alloc | apply Kd.R_drewN | apply Kd.R_drew)); exact HO167.out) hb); have n1_ := Aside0.mk (Kd.V_below (by (with_reducible repeat (first | apply Kd.V_alloc | apply Kd.V_drewN | apply Kd.V_drew)); exact HO172.out) hb); have n2_ := Aside0.mk (Kd.V_below (by (with_reducible repeat (first | apply Kd.V_alloc | apply Kd.V_drewN | apply Kd.V_drew)); exact HO177.out) hb); have n3_ := Aside0.mk (Kd.V_below (by (with_reducible repeat (first | apply Kd.V_alloc | apply Kd.V_drewN | apply Kd.V_drew)); exact HO182.out) hb); have n4_ := Aside0.mk (Kd.V_lower ho42 (below_size (by repeat (first | (with_reducible first | exact HB.out | apply below_alloc | apply pw_below_drewN | apply below_drew1 | refine below_set ?_ GE169.out) | exact HB.out)))); have n5_ := Aside0.mk (blk_below (g := gb169) (o := .cells #[.string ((rd_T51 y165 (ji3)).f0), .int .i64 ((rd_T51 y165 (ji3)).f1), .int .i64 ((rd_T51 y165 (ji3)).f2), .int .i64 ((rd_T51 y165 (ji3)).f3), .int .i64 ((rd_T51 y165 (ji3)).f4), .int .i64 ((rd_T51 y165 (ji3)).f5)] 51 (0, 0)) (by (with_reducible repeat (first | refine blk_drewN ?_ _ | refine blk_drew ?_ | refine blk_alloc ?_ _)); exact BK169.out) hb); have n6_ := Aside0.mk (below_step (by repeat (first | (with_reducible first | exact HB.out | apply below_alloc | apply pw_below_drewN | apply below_drew1 | refine below_set ?_ GE169.out) | exact HB.out)) hb); clear HO167; clear HO172; clear HO177; clear HO182; clear BK169; clear HB; have HO167 := n0_; have HO172 := n1_; have HO177 := n2_; have HO182 := n3_; have HO187 := n4_; have BK169 := n5_; have HB := n6_; clear n0_ n1_ n2_ n3_ n4_ n5_ n6_; clear hb ho42; obtain ⟨Ao43, co43, eo43⟩ := Kd.V_slice HO187.out; subst eo43) | ((with_reducible refine gate_callee (f := 26) rfl ?_); refine goesL_ (some 59) rfl rfl Try.func26 (by kernel_rfl) rfl #[.slice Ao43 y185.length co43] rfl (by (try simp only [List.map_toArray, List.map_cons, List.map_nil]); first | done | rfl | (simp only [List.length_drop, List.length_take]; rfl)) ?_; (with_reducible refine (scan_Long.calls _ _ y185 t188 t189 false _ ?side1 ?side2 A10.out).mono ?_); (case side1 => repeat (first | exact (Kd.V_reads' HO187.out).2.2 | (with_reducible refine Kd.C_alloc ?_ _) | (with_reducible refine Kd.C_drewN ?_ _) | (with_reducible refine Kd.C_drew ?_))); (case side2 => exact (Kd.V_reads' HO187.out).2.1); rintro e w44 ⟨rfl, hb⟩; refine ⟨_, rfl, ?_⟩; have n0_ := Aside0.mk (Kd.R_below (by (with_reducible repeat (first | apply Kd.R_alloc | apply Kd.R_drewN | apply Kd.R_drew)); exact HO167.out) hb); have n1_ := Aside0.mk (Kd.V_below (by (with_reducible repeat (first | apply Kd.V_alloc | apply Kd.V_drewN | apply Kd.V_drew)); exact HO172.out) hb); have n2_ := Aside0.mk (Kd.V_below (by (with_reducible repeat (first | apply Kd.V_alloc | apply Kd.V_drewN | apply Kd.V_drew)); exact HO177.out) hb); have n3_ := Aside0.mk (Kd.V_below (by (with_reducible repeat (first | apply Kd.V_alloc | apply Kd.V_drewN | apply Kd.V_drew)); exact HO182.out) hb); have n4_ := Aside0.mk (Kd.V_below (by (with_reducible repeat (first | apply Kd.V_alloc | apply Kd.V_drewN | apply Kd.V_drew)); exact HO187.out) hb); have n5_ := Aside0.mk (blk_below (g := gb169) (o := .cells #[.string ((rd_T51 y165 (ji3)).f0), .int .i64 ((rd_T51 y165 (ji3)).f1), .int .i64 ((rd_T51 y165 (ji3)).f2), .int .i64 ((rd_T51 y165 (ji3)).f3), .int .i64 ((rd_T51 y165 (ji3)).f4), .int .i64 ((rd_T51 y165 (ji3)).f5)] 51 (0, 0)) (by (with_reducible repeat (first | refine blk_drewN ?_ _ | refine blk_drew ?_ | refine blk_alloc ?_ _)); exact BK169.out) hb); have n6_ := Aside0.mk (below_step (by repeat (first | (with_reducible first | exact HB.out | apply below_alloc | apply pw_below_drewN | apply below_drew1 | refine below_set ?_ GE169.out) | exact HB.out)) hb); clear HO167; clear HO172; clear HO177; clear HO182; clear HO187; clear BK169; clear HB; have HO167 := n0_; have HO172 := n1_; have HO177 := n2_; have HO182 := n3_; have HO187 := n4_; have BK169 := n5_; have HB := n6_; clear n0_ n1_ n2_ n3_ n4_ n5_ n6_; (try clear hb); (try clear hb2); (try clear hk); (try clear hi)) | ((with_reducible refine gate_dst (N := 11) rfl ?_); refine box_event ?hg (N := 11) ?hd (cs := #[.int .i64 0, .int .i64 0]) (t := 26) ?hr ?_; (case hd => rfl); (case hg => rfl); (case hr => first | (go_simp; done) | (go_simp; rfl)); intro gb191 hg w45 hbox hb; have n0_ := Aside0.mk (Kd.R_below (by (with_reducible repeat (first | apply Kd.R_alloc | apply Kd.R_drewN | apply Kd.R_drew)); exact HO167.out) hb); have n1_ := Aside0.mk (Kd.V_below (Kd.V_elderB (by (with_reducible repeat (first | apply Kd.V_alloc | apply Kd.V_drewN | apply Kd.V_drew)); exact HO172.out) gb191 (Nat.le_of_eq hg.symm)) hb); have n2_ := Aside0.mk (Kd.V_below (Kd.V_elderB (by (with_reducible repeat (first | apply Kd.V_alloc | apply Kd.V_drewN | apply Kd.V_drew)); exact HO177.out) gb191 (Nat.le_of_eq hg.symm)) hb); have n3_ := Aside0.mk (Kd.V_below (Kd.V_elderB (by (with_reducible repeat (first | apply Kd.V_alloc | apply Kd.V_drewN | apply Kd.V_drew)); exact HO182.out) gb191 (Nat.le_of_eq hg.symm)) hb); have n4_ := Aside0.mk (Kd.V_below (Kd.V_elderB (by (with_reducible repeat (first | apply Kd.V_alloc | apply Kd.V_drewN | apply Kd.V_drew)); exact HO187.out) gb191 (Nat.le_of_eq hg.symm)) hb); have n5_ := Aside0.mk (blk_below (g := gb169) (o := .cells #[.string ((rd_T51 y165 (ji3)).f0), .int .i64 ((rd_T51 y165 (ji3)).f1), .int .i64 ((rd_T51 y165 (ji3)).f2), .int .i64 ((rd_T51 y165 (ji3)).f3), .int .i64 ((rd_T51 y165 (ji3)).f4), .int .i64 ((rd_T51 y165 (ji3)).f5)] 51 (0, 0)) (by (with_reducible repeat (first | refine blk_drewN ?_ _ | refine blk_drew ?_ | refine blk_alloc ?_ _)); exact BK169.out) hb); have n6_ := Aside0.mk (below_step (by repeat (first | (with_reducible first | exact HB.out | apply below_alloc | apply pw_below_drewN | apply below_drew1 | refine below_set ?_ GE169.out) | exact HB.out)) hb); have n7_ := Aside0.mk (hbox); have n8_ := Aside0.mk ((by rw [hg]; exact (below_size (by repeat (first | (with_reducible first | exact HB.out | apply below_alloc | apply pw_below_drewN | apply below_drew1 | refine below_set ?_ GE169.out) | exact HB.out))) : w.heap.size ≤ gb191)); have n9_ := Aside0.mk ((by rw [hg]; exact (below_size (by repeat (first | (with_reducible first | exact HB.out | apply below_alloc | apply pw_below_drewN | apply below_drew1 | refine below_set ?_ GE169.out) | exact HB.out))) : w.heap.size ≤ gb191)); have n10_ := Aside0.mk ((by rw [hg]; exact Nat.ne_of_lt (blk_lt (g := gb169) (o := .cells #[.string ((rd_T51 y165 (ji3)).f0), .int .i64 ((rd_T51 y165 (ji3)).f1), .int .i64 ((rd_T51 y165 (ji3)).f2), .int .i64 ((rd_T51 y165 (ji3)).f3), .int .i64 ((rd_T51 y165 (ji3)).f4), .int .i64 ((rd_T51 y165 (ji3)).f5)] 51 (0, 0)) (by (with_reducible repeat (first | refine blk_drewN ?_ _ | refine blk_drew ?_ | refine blk_alloc ?_ _)); exact BK169.out)) : gb169 ≠ gb191)); have n11_ := Aside0.mk ((by rw [hg]; exact Nat.ne_of_gt (blk_lt (g := gb169) (o := .cells #[.string ((rd_T51 y165 (ji3)).f0), .int .i64 ((rd_T51 y165 (ji3)).f1), .int .i64 ((rd_T51 y165 (ji3)).f2), .int .i64 ((rd_T51 y165 (ji3)).f3), .int .i64 ((rd_T51 y165 (ji3)).f4), .int .i64 ((rd_T51 y165 (ji3)).f5)] 51 (0, 0)) (by (with_reducible repeat (first | refine blk_drewN ?_ _ | refine blk_drew ?_ | refine blk_alloc ?_ _)); exact BK169.out)) : gb191 ≠ gb169)); clear HO167; clear HO172; clear HO177; clear HO182; clear HO187; clear BK169; clear HB; have HO167 := n0_; have HO172 := n1_; have HO177 := n2_; have HO182 := n3_; have HO187 := n4_; have BK169 := n5_; have HB := n6_; have BK191 := n7_; have GW191 := n8_; have GE191 := n9_; have NB169_191 := n10_; have NB191_169 := n11_; clear n0_ n1_ n2_ n3_ n4_ n5_ n6_ n7_ n8_ n9_ n10_ n11_; clear hb hbox hg; have hnb46 := NB191_169.out; have hnc46 := NB169_191.out; have hcz47_0 : w45.cell? ⟨gb191, 0, none⟩ = some (.int .i64 0) := (blk_cell BK191.out 0).trans rfl; have hcz47_1 : w45.cell? ⟨gb191, 1, none⟩ = some (.int .i64 0) := (blk_cell BK191.out 1).trans rfl; have hfz47_0 := blk_frozen BK191.out 0; have hfz47_1 := blk_frozen BK191.out 1))
                        have n0_ : Aside0 (Kd.R k51 51 ((w45.setCell ⟨gb191, 0, none⟩ (.int .i64 t188)).setCell ⟨gb191, 1, none⟩ (.int .i64 t189)) w.heap.size (fun k_ => k_ ≠ gb169) (.slice (some ad168) y165.length co22) y165) := ⟨by (with_reducible repeat (first | apply Kd.R_alloc | apply Kd.R_drewN | apply Kd.R_drew)); exact Kd.R_mono (Kd.R_far (p := ⟨gb191, 1, none⟩) (Kd.R_far (p := ⟨gb191, 0, none⟩) (Kd.R_types HO167.out BK191.out (by decide)) (fun _ hk => hk.2) (.int .i64 t188)) (fun _ hk => hk.2) (.int .i64 t189)) (fun _ hk => hk.1.2)⟩
                        have n1_ : Aside0 (Kd.V (Kd.int .u8) 5 ((w45.setCell ⟨gb191, 0, none⟩ (.int .i64 t188)).setCell ⟨gb191, 1, none⟩ (.int .i64 t189)) w.heap.size (fun k_ => some k_ ≠ (.slice (some ad168) y165.length co22 : Value).ownBlock ∧ k_ ≠ gb169 ∧ k_ ≠ gb191) (.slice Ao28 y170.length co28) y170) := ⟨by (with_reducible repeat (first | apply Kd.V_alloc | apply Kd.V_drewN | apply Kd.V_drew)); exact Kd.V_mono (Kd.V_far (p := ⟨gb191, 1, none⟩) (Kd.V_far (p := ⟨gb191, 0, none⟩) (Kd.V_mono HO172.out (fun k_ hk => (⟨hk, hk.2⟩ : _ ∧ k_ ≠ gb191))) (fun _ hk => hk.2) (.int .i64 t188)) (fun _ hk => hk.2) (.int .i64 t189)) (fun _ hk => ⟨hk.1.1.1, ⟨hk.1.1.2, hk.1.2⟩⟩)⟩
                        have n2_ : Aside0 (Kd.V (Kd.int .u8) 5 ((w45.setCell ⟨gb191, 0, none⟩ (.int .i64 t188)).setCell ⟨gb191, 1, none⟩ (.int .i64 t189)) w.heap.size (fun k_ => some k_ ≠ (.slice (some ad168) y165.length co22 : Value).ownBlock ∧ k_ ≠ gb169 ∧ k_ ≠ gb191) (.slice Ao33 y175.length co33) y175) := ⟨by (with_reducible repeat (first | apply Kd.V_alloc | apply Kd.V_drewN | apply Kd.V_drew)); exact Kd.V_mono (Kd.V_far (p := ⟨gb191, 1, none⟩) (Kd.V_far (p := ⟨gb191, 0, none⟩) (Kd.V_mono HO177.out (fun k_ hk => (⟨hk, hk.2⟩ : _ ∧ k_ ≠ gb191))) (fun _ hk => hk.2) (.int .i64 t188)) (fun _ hk => hk.2) (.int .i64 t189)) (fun _ hk => ⟨hk.1.1.1, ⟨hk.1.1.2, hk.1.2⟩⟩)⟩
                        have n3_ : Aside0 (Kd.V (Kd.int .u8) 5 ((w45.setCell ⟨gb191, 0, none⟩ (.int .i64 t188)).setCell ⟨gb191, 1, none⟩ (.int .i64 t189)) w.heap.size (fun k_ => some k_ ≠ (.slice (some ad168) y165.length co22 : Value).ownBlock ∧ k_ ≠ gb169 ∧ k_ ≠ gb191) (.slice Ao38 y180.length co38) y180) := ⟨by (with_reducible repeat (first | apply Kd.V_alloc | apply Kd.V_drewN | apply Kd.V_drew)); exact Kd.V_mono (Kd.V_far (p := ⟨gb191, 1, none⟩) (Kd.V_far (p := ⟨gb191, 0, none⟩) (Kd.V_mono HO182.out (fun k_ hk => (⟨hk, hk.2⟩ : _ ∧ k_ ≠ gb191))) (fun _ hk => hk.2) (.int .i64 t188)) (fun _ hk => hk.2) (.int .i64 t189)) (fun _ hk => ⟨hk.1.1.1, ⟨hk.1.1.2, hk.1.2⟩⟩)⟩
                        have n4_ : Aside0 (Kd.V (Kd.int .u8) 5 ((w45.setCell ⟨gb191, 0, none⟩ (.int .i64 t188)).setCell ⟨gb191, 1, none⟩ (.int .i64 t189)) w.heap.size (fun k_ => some k_ ≠ (.slice (some ad168) y165.length co22 : Value).ownBlock ∧ k_ ≠ gb169 ∧ k_ ≠ gb191) (.slice Ao43 y185.length co43) y185) := ⟨by (with_reducible repeat (first | apply Kd.V_alloc | apply Kd.V_drewN | apply Kd.V_drew)); exact Kd.V_mono (Kd.V_far (p := ⟨gb191, 1, none⟩) (Kd.V_far (p := ⟨gb191, 0, none⟩) (Kd.V_mono HO187.out (fun k_ hk => (⟨hk, hk.2⟩ : _ ∧ k_ ≠ gb191))) (fun _ hk => hk.2) (.int .i64 t188)) (fun _ hk => hk.2) (.int .i64 t189)) (fun _ hk => ⟨hk.1.1.1, ⟨hk.1.1.2, hk.1.2⟩⟩)⟩
                        have n5_ : Aside0 (((w45.setCell ⟨gb191, 0, none⟩ (.int .i64 t188)).setCell ⟨gb191, 1, none⟩ (.int .i64 t189)).heap[gb169]? = some (.cells #[.string ((rd_T51 y165 (ji3)).f0), .int .i64 ((rd_T51 y165 (ji3)).f1), .int .i64 ((rd_T51 y165 (ji3)).f2), .int .i64 ((rd_T51 y165 (ji3)).f3), .int .i64 ((rd_T51 y165 (ji3)).f4), .int .i64 ((rd_T51 y165 (ji3)).f5)] 51 (0, 0))) := ⟨by (with_reducible repeat (first | refine blk_drewN ?_ _ | refine blk_drew ?_ | refine blk_alloc ?_ _)); refine blk_far ?_ NB169_191.out _; (with_reducible repeat (first | refine blk_drewN ?_ _ | refine blk_drew ?_ | refine blk_alloc ?_ _)); refine blk_far ?_ NB169_191.out _; (with_reducible repeat (first | refine blk_drewN ?_ _ | refine blk_drew ?_ | refine blk_alloc ?_ _)); exact BK169.out⟩
                        have n6_ : Aside0 (((w45.setCell ⟨gb191, 0, none⟩ (.int .i64 t188)).setCell ⟨gb191, 1, none⟩ (.int .i64 t189)).heap[gb191]? = some (.cells #[.int .i64 t188, .int .i64 t189] 26 (0, 0))) := ⟨by (with_reducible repeat (first | refine blk_drewN ?_ _ | refine blk_drew ?_ | refine blk_alloc ?_ _)); refine blk_put (cs := #[.int .i64 t188, .int .i64 0]) ?_ 1 _ rfl; (with_reducible repeat (first | refine blk_drewN ?_ _ | refine blk_drew ?_ | refine blk_alloc ?_ _)); refine blk_put (cs := #[.int .i64 0, .int .i64 0]) ?_ 0 _ rfl; (with_reducible repeat (first | refine blk_drewN ?_ _ | refine blk_drew ?_ | refine blk_alloc ?_ _)); exact BK191.out⟩
                        have n7_ : Aside0 (Below w.heap.size w ((w45.setCell ⟨gb191, 0, none⟩ (.int .i64 t188)).setCell ⟨gb191, 1, none⟩ (.int .i64 t189))) := ⟨by repeat (first | (with_reducible first | exact HB.out | apply below_alloc | apply pw_below_drewN | apply below_drew1 | refine below_set ?_ GE169.out | refine below_set ?_ GE191.out) | exact HB.out)⟩
                        (try clear HO167)
                        (try clear HO172)
                        (try clear HO177)
                        (try clear HO182)
                        (try clear HO187)
                        (try clear BK169)
                        (try clear BK191)
                        (try clear HB)
                        generalize ((w45.setCell ⟨gb191, 0, none⟩ (.int .i64 t188)).setCell ⟨gb191, 1, none⟩ (.int .i64 t189)) = w48 at n0_ n1_ n2_ n3_ n4_ n5_ n6_ n7_ ⊢
                        have HO167 := n0_
                        have HO172 := n1_
                        have HO177 := n2_
                        have HO182 := n3_
                        have HO187 := n4_
                        have BK169 := n5_
                        have BK191 := n6_
                        have HB := n7_
                        clear n0_ n1_ n2_ n3_ n4_ n5_ n6_ n7_
                        have n0_ := Aside0.mk (Kd.R_drew HO167.out)
                        have n1_ := Aside0.mk (Kd.V_drew HO172.out)
                        have n2_ := Aside0.mk (Kd.V_drew HO177.out)
                        have n3_ := Aside0.mk (Kd.V_drew HO182.out)
                        have n4_ := Aside0.mk (Kd.V_drew HO187.out)
                        have n5_ := Aside0.mk (blk_drew BK169.out)
                        have n6_ := Aside0.mk (blk_drew BK191.out)
                        have n7_ := Aside0.mk (below_drew1 HB.out)
                        clear HO167
                        clear HO172
                        clear HO177
                        clear HO182
                        clear HO187
                        clear BK169
                        clear BK191
                        clear HB
                        have HO167 := n0_
                        have HO172 := n1_
                        have HO177 := n2_
                        have HO182 := n3_
                        have HO187 := n4_
                        have BK169 := n5_
                        have BK191 := n6_
                        have HB := n7_
                        clear n0_ n1_ n2_ n3_ n4_ n5_ n6_ n7_
                        refine start_ (n := 42) (S := fun w' => w'.cell? ⟨gb169, 0, none⟩ = some (.string ((rd_T51 y165 (ji3)).f0)) ∧ w'.cell? ⟨gb169, 1, none⟩ = some (.int .i64 ((rd_T51 y165 (ji3)).f1)) ∧ w'.cell? ⟨gb169, 2, none⟩ = some (.int .i64 ((rd_T51 y165 (ji3)).f2)) ∧ w'.cell? ⟨gb169, 3, none⟩ = some (.int .i64 ((rd_T51 y165 (ji3)).f3)) ∧ w'.cell? ⟨gb169, 4, none⟩ = some (.int .i64 ((rd_T51 y165 (ji3)).f4)) ∧ w'.cell? ⟨gb169, 5, none⟩ = some (.int .i64 ((rd_T51 y165 (ji3)).f5))) (ds := []) #[false, false, false, false, false, false, false, false, false, false, false, false, false, false, false, false, false, false, false, false, false, false, false, false, false, false, false, false, false, false, false, false, false, false, false, false, false, false, false, false, false, false] (by kernel_rfl) rfl rfl ⟨(blk_cell BK169.out 0).trans rfl, (blk_cell BK169.out 1).trans rfl, (blk_cell BK169.out 2).trans rfl, (blk_cell BK169.out 3).trans rfl, (blk_cell BK169.out 4).trans rfl, (blk_cell BK169.out 5).trans rfl⟩ (fun hHeld => ?_); refine with_tabW glebelaw7_ScanForms.tab7 glebelaw7_ScanForms.bits7 (fun HT_ HW_ => ?_)
                        generalize w48.drew = w49 at HO167 HO172 HO177 HO182 HO187 BK169 BK191 HB hHeld ⊢
                        refine pure_ (i := 0) (N := some 62) (v := ?_) (a' := ?_) #[true, false, false, false, false, false, false, false, false, false, false, false, false, false, false, false, false, false, false, false, false, false, false, false, false, false, false, false, false, false, false, false, false, false, false, false, false, false, false, false, false, false] rfl rfl (any_of HT_.out (by kernel_rfl)) (fun _ _ _ h => h) (Or.inl ⟨by rfl, ?_⟩) ?_ ?_
                        rotate_left
                        · intro w'
                          go_simp
                          with_reducible rfl
                        rotate_left
                        · simp only [Act.put, List.setIfInBounds_toArray, List.set_cons_zero, List.set_cons_succ, i64_w, i32_w]
                          rfl
                        refine pure_ (i := 5) (N := some 67) (v := ?_) (a' := ?_) #[true, false, false, false, false, true, false, false, false, false, false, false, false, false, false, false, false, false, false, false, false, false, false, false, false, false, false, false, false, false, false, false, false, false, false, false, false, false, false, false, false, false] rfl rfl (any_of HT_.out (by kernel_rfl)) (fun _ _ _ h => h) (Or.inl ⟨by rfl, ?_⟩) ?_ ?_
                        rotate_left
                        · intro w'
                          go_simp
                          with_reducible rfl
                        rotate_left
                        · simp only [Act.put, List.setIfInBounds_toArray, List.set_cons_zero, List.set_cons_succ, i64_w, i32_w]
                          rfl
                        refine take_ (i := 1) (N := some 63) (v := ?_) (a' := ?_) #[true, true, false, false, false, true, false, false, false, false, false, false, false, false, false, false, false, false, false, false, false, false, false, false, false, false, false, false, false, false, false, false, false, false, false, false, false, false, false, false, false, false] rfl rfl (take_ofW HT_.out HW_.out (by kernel_rfl)) (fun _ _ _ h => h) (Or.inl ⟨by rfl, ?_⟩) hHeld ?_ ?_
                        rotate_left
                        · rintro w' ⟨s0, s1, s2, s3, s4, s5⟩
                          go_simp
                          with_reducible rfl
                        rotate_left
                        · simp only [Act.put, List.setIfInBounds_toArray, List.set_cons_zero, List.set_cons_succ, i64_w, i32_w]
                          rfl
                        refine take_ (i := 6) (N := some 68) (v := ?_) (a' := ?_) #[true, true, false, false, false, true, true, false, false, false, false, false, false, false, false, false, false, false, false, false, false, false, false, false, false, false, false, false, false, false, false, false, false, false, false, false, false, false, false, false, false, false] rfl rfl (take_ofW HT_.out HW_.out (by kernel_rfl)) (fun _ _ _ h => h) (Or.inl ⟨by rfl, ?_⟩) hHeld ?_ ?_
                        rotate_left
                        · rintro w' ⟨s0, s1, s2, s3, s4, s5⟩
                          go_simp
                          with_reducible rfl
                        rotate_left
                        · simp only [Act.put, List.setIfInBounds_toArray, List.set_cons_zero, List.set_cons_succ, i64_w, i32_w]
                          rfl
                        refine one_ (i := 2) (N := some 64) #[true, true, true, false, false, true, true, false, false, false, false, false, false, false, false, false, false, false, false, false, false, false, false, false, false, false, false, false, false, false, false, false, false, false, false, false, false, false, false, false, false, false] rfl rfl (one_of HT_.out (by kernel_rfl)) (by decide) (fun K hK => ?_)
                        refine XW.V_bytes_step _ 5 (by rfl) (N := 64) rfl 9 29 _ rfl ((rd_T51 y165 (ji3)).f0) rfl Try.underlying9 Try.underlying29 Try.underlying5 (by have h_ : ((rd_T51 y165 (ji3)).f0).size ≤ 9223372036854775807 := of_decide_eq_true (by first | (with_reducible assumption) | assumption); first | exact h_ | (simp only [ByteArray.size_append]; exact h_)) (ok := (fun k_ => some k_ ≠ (.slice (some ad168) y165.length co22 : Value).ownBlock ∧ k_ ≠ gb169 ∧ k_ ≠ gb191)) (fun k_ hk => ⟨Kd.fresh' (Kd.R_lt (by (with_reducible repeat (first | apply Kd.R_alloc | apply Kd.R_drewN | apply Kd.R_drew)); exact HO167.out)) k_ hk, Kd.freshB (g := gb169) (o := .cells #[.string ((rd_T51 y165 (ji3)).f0), .int .i64 ((rd_T51 y165 (ji3)).f1), .int .i64 ((rd_T51 y165 (ji3)).f2), .int .i64 ((rd_T51 y165 (ji3)).f3), .int .i64 ((rd_T51 y165 (ji3)).f4), .int .i64 ((rd_T51 y165 (ji3)).f5)] 51 (0, 0)) (by (with_reducible repeat (first | refine blk_drewN ?_ _ | refine blk_drew ?_ | refine blk_alloc ?_ _)); exact BK169.out) k_ hk, Kd.freshB (g := gb191) (o := .cells #[.int .i64 t188, .int .i64 t189] 26 (0, 0)) (by (with_reducible repeat (first | refine blk_drewN ?_ _ | refine blk_drew ?_ | refine blk_alloc ?_ _)); exact BK191.out) k_ hk⟩) (Below.refl _ _) (Nat.le_refl _) ?_
                        intro v193 w50 ho51 hb hg_ hnew_
                        clear hg_ hnew_
                        (first | rw [← Ny192.out] at ho51 | (simp only [Int.reduceToNat] at ho51; rw [← Ny192.out] at ho51))
                        have n0_ := Aside0.mk (Kd.R_below (by (with_reducible repeat (first | apply Kd.R_alloc | apply Kd.R_drewN | apply Kd.R_drew)); exact HO167.out) hb)
                        have n1_ := Aside0.mk (Kd.V_below (by (with_reducible repeat (first | apply Kd.V_alloc | apply Kd.V_drewN | apply Kd.V_drew)); exact HO172.out) hb)
                        have n2_ := Aside0.mk (Kd.V_below (by (with_reducible repeat (first | apply Kd.V_alloc | apply Kd.V_drewN | apply Kd.V_drew)); exact HO177.out) hb)
                        have n3_ := Aside0.mk (Kd.V_below (by (with_reducible repeat (first | apply Kd.V_alloc | apply Kd.V_drewN | apply Kd.V_drew)); exact HO182.out) hb)
                        have n4_ := Aside0.mk (Kd.V_below (by (with_reducible repeat (first | apply Kd.V_alloc | apply Kd.V_drewN | apply Kd.V_drew)); exact HO187.out) hb)
                        have n5_ := Aside0.mk (Kd.V_lower ho51 (below_size (by repeat (first | (with_reducible first | exact HB.out | apply below_alloc | apply pw_below_drewN | apply below_drew1 | refine below_set ?_ GE169.out | refine below_set ?_ GE191.out) | exact HB.out))))
                        have n6_ := Aside0.mk (blk_below (g := gb169) (o := .cells #[.string ((rd_T51 y165 (ji3)).f0), .int .i64 ((rd_T51 y165 (ji3)).f1), .int .i64 ((rd_T51 y165 (ji3)).f2), .int .i64 ((rd_T51 y165 (ji3)).f3), .int .i64 ((rd_T51 y165 (ji3)).f4), .int .i64 ((rd_T51 y165 (ji3)).f5)] 51 (0, 0)) (by (with_reducible repeat (first | refine blk_drewN ?_ _ | refine blk_drew ?_ | refine blk_alloc ?_ _)); exact BK169.out) hb)
                        have n7_ := Aside0.mk (blk_below (g := gb191) (o := .cells #[.int .i64 t188, .int .i64 t189] 26 (0, 0)) (by (with_reducible repeat (first | refine blk_drewN ?_ _ | refine blk_drew ?_ | refine blk_alloc ?_ _)); exact BK191.out) hb)
                        have n8_ := Aside0.mk (below_step (by repeat (first | (with_reducible first | exact HB.out | apply below_alloc | apply pw_below_drewN | apply below_drew1 | refine below_set ?_ GE169.out | refine below_set ?_ GE191.out) | exact HB.out)) hb)
                        clear HO167
                        clear HO172
                        clear HO177
                        clear HO182
                        clear HO187
                        clear BK169
                        clear BK191
                        clear HB
                        have HO167 := n0_
                        have HO172 := n1_
                        have HO177 := n2_
                        have HO182 := n3_
                        have HO187 := n4_
                        have HO194 := n5_
                        have BK169 := n6_
                        have BK191 := n7_
                        have HB := n8_
                        clear n0_ n1_ n2_ n3_ n4_ n5_ n6_ n7_ n8_
                        clear hb ho51
                        obtain ⟨Ao52, co52, eo52⟩ := Kd.V_slice HO194.out
                        (first | subst eo52 | (injection eo52 with f1_ f2_ f3_; have f4_ := f1_.symm; have f5_ := f3_.symm; clear f1_ f2_ f3_; subst f4_; subst f5_))
                        refine hK.out _ _ ⟨(blk_cell BK169.out 0).trans rfl, (blk_cell BK169.out 1).trans rfl, (blk_cell BK169.out 2).trans rfl, (blk_cell BK169.out 3).trans rfl, (blk_cell BK169.out 4).trans rfl, (blk_cell BK169.out 5).trans rfl⟩ (fun hHeld => ?_)
                        clear hK K
                        refine norm_ (a' := ?_) ?_ ?_
                        rotate_left
                        · show Act.put _ (some 64) _ = _
                          simp only [Act.put, List.setIfInBounds_toArray, List.set_cons_zero, List.set_cons_succ, i64_w, i32_w]
                          rfl
                        refine one_ (i := 3) (N := some 65) #[true, true, true, true, false, true, true, false, false, false, false, false, false, false, false, false, false, false, false, false, false, false, false, false, false, false, false, false, false, false, false, false, false, false, false, false, false, false, false, false, false, false] rfl rfl (one_of HT_.out (by kernel_rfl)) (by decide) (fun K hK => ?_)
                        refine goes_ Try.func27 (by kernel_rfl) rfl #[.slice Ao52 y192.length co52] (by rfl) rfl rfl (by (try simp only [List.map_toArray, List.map_cons, List.map_nil]); first | done | rfl | (simp only [List.length_drop, List.length_take]; rfl)) ?_
                        with_reducible refine (scan_Lines.calls k _ _ y192 t195 _ ?side1 ?side2 A11.out).mono ?_
                        (case side1 => repeat (first | exact (Kd.V_reads' HO194.out).2.2 | (with_reducible refine Kd.C_alloc ?_ _) | (with_reducible refine Kd.C_drewN ?_ _) | (with_reducible refine Kd.C_drew ?_)))
                        (case side2 => exact (Kd.V_reads' HO194.out).2.1)
                        rintro e w53 ⟨v196, rfl, ho0, hb⟩
                        refine ⟨_, rfl, ?_⟩
                        have n0_ := Aside0.mk (Kd.R_below (by (with_reducible repeat (first | apply Kd.R_alloc | apply Kd.R_drewN | apply Kd.R_drew)); exact HO167.out) hb)
                        have n1_ := Aside0.mk (Kd.V_elder' (by (with_reducible repeat (first | apply Kd.V_alloc | apply Kd.V_drewN | apply Kd.V_drew)); exact HO172.out) (Kd.R_base ho0) hb)
                        have n2_ := Aside0.mk (Kd.V_elder' (by (with_reducible repeat (first | apply Kd.V_alloc | apply Kd.V_drewN | apply Kd.V_drew)); exact HO177.out) (Kd.R_base ho0) hb)
                        have n3_ := Aside0.mk (Kd.V_elder' (by (with_reducible repeat (first | apply Kd.V_alloc | apply Kd.V_drewN | apply Kd.V_drew)); exact HO182.out) (Kd.R_base ho0) hb)
                        have n4_ := Aside0.mk (Kd.V_elder' (by (with_reducible repeat (first | apply Kd.V_alloc | apply Kd.V_drewN | apply Kd.V_drew)); exact HO187.out) (Kd.R_base ho0) hb)
                        have n5_ := Aside0.mk (Kd.V_elder' (by (with_reducible repeat (first | apply Kd.V_alloc | apply Kd.V_drewN | apply Kd.V_drew)); exact HO194.out) (Kd.R_base ho0) hb)
                        have n6_ := Aside0.mk (Kd.R_lower ho0 (below_size (by repeat (first | (with_reducible first | exact HB.out | apply below_alloc | apply pw_below_drewN | apply below_drew1 | refine below_set ?_ GE169.out | refine below_set ?_ GE191.out) | exact HB.out))))
                        have n7_ := Aside0.mk (blk_below (g := gb169) (o := .cells #[.string ((rd_T51 y165 (ji3)).f0), .int .i64 ((rd_T51 y165 (ji3)).f1), .int .i64 ((rd_T51 y165 (ji3)).f2), .int .i64 ((rd_T51 y165 (ji3)).f3), .int .i64 ((rd_T51 y165 (ji3)).f4), .int .i64 ((rd_T51 y165 (ji3)).f5)] 51 (0, 0)) (by (with_reducible repeat (first | refine blk_drewN ?_ _ | refine blk_drew ?_ | refine blk_alloc ?_ _)); exact BK169.out) hb)
                        have n8_ := Aside0.mk (blk_below (g := gb191) (o := .cells #[.int .i64 t188, .int .i64 t189] 26 (0, 0)) (by (with_reducible repeat (first | refine blk_drewN ?_ _ | refine blk_drew ?_ | refine blk_alloc ?_ _)); exact BK191.out) hb)
                        have n9_ := Aside0.mk (below_step (by repeat (first | (with_reducible first | exact HB.out | apply below_alloc | apply pw_below_drewN | apply below_drew1 | refine below_set ?_ GE169.out | refine below_set ?_ GE191.out) | exact HB.out)) hb)
                        clear HO167
                        clear HO172
                        clear HO177
                        clear HO182
                        clear HO187
                        clear HO194
                        clear BK169
                        clear BK191
                        clear HB
                        have HO167 := n0_
                        have HO172 := n1_
                        have HO177 := n2_
                        have HO182 := n3_
                        have HO187 := n4_
                        have HO194 := n5_
                        have HO197 := n6_
                        have BK169 := n7_
                        have BK191 := n8_
                        have HB := n9_
                        clear n0_ n1_ n2_ n3_ n4_ n5_ n6_ n7_ n8_ n9_
                        (try clear hb)
                        (try clear hb2)
                        (try clear hk)
                        (try clear hi)
                        (try clear ho0)
                        obtain ⟨Ao54, co54, eo54⟩ := Kd.R_slice HO197.out
                        (first | subst eo54 | (injection eo54 with f1_ f2_ f3_; have f4_ := f1_.symm; have f5_ := f3_.symm; clear f1_ f2_ f3_; subst f4_; subst f5_))
                        refine hK.out _ _ ⟨(blk_cell BK169.out 0).trans rfl, (blk_cell BK169.out 1).trans rfl, (blk_cell BK169.out 2).trans rfl, (blk_cell BK169.out 3).trans rfl, (blk_cell BK169.out 4).trans rfl, (blk_cell BK169.out 5).trans rfl⟩ (fun hHeld => ?_)
                        clear hK K
                        refine norm_ (a' := ?_) ?_ ?_
                        rotate_left
                        · show Act.put _ (some 65) _ = _
                          simp only [Act.put, List.setIfInBounds_toArray, List.set_cons_zero, List.set_cons_succ, i64_w, i32_w]
                          rfl
                        refine pure_ (i := 4) (N := some 66) (v := ?_) (a' := ?_) #[true, true, true, true, true, true, true, false, false, false, false, false, false, false, false, false, false, false, false, false, false, false, false, false, false, false, false, false, false, false, false, false, false, false, false, false, false, false, false, false, false, false] rfl rfl (any_of HT_.out (by kernel_rfl)) (fun _ _ _ h => h) (Or.inl ⟨by rfl, ?_⟩) ?_ ?_
                        rotate_left
                        · intro w'
                          go_simp
                          with_reducible rfl
                        rotate_left
                        · simp only [Act.put, List.setIfInBounds_toArray, List.set_cons_zero, List.set_cons_succ, i64_w, i32_w]
                          rfl
                        refine pure_ (i := 7) (N := some 69) (v := ?_) (a' := ?_) #[true, true, true, true, true, true, true, true, false, false, false, false, false, false, false, false, false, false, false, false, false, false, false, false, false, false, false, false, false, false, false, false, false, false, false, false, false, false, false, false, false, false] rfl rfl (any_of HT_.out (by kernel_rfl)) (fun _ _ _ h => h) (Or.inl ⟨by rfl, ?_⟩) ?_ ?_
                        rotate_left
                        · intro w'
                          go_simp
                          with_reducible rfl
                        rotate_left
                        · simp only [Act.put, List.setIfInBounds_toArray, List.set_cons_zero, List.set_cons_succ, i64_w, i32_w]
                          rfl
                        refine pure_ (i := 8) (N := some 70) (v := ?_) (a' := ?_) #[true, true, true, true, true, true, true, true, true, false, false, false, false, false, false, false, false, false, false, false, false, false, false, false, false, false, false, false, false, false, false, false, false, false, false, false, false, false, false, false, false, false] rfl rfl (any_of HT_.out (by kernel_rfl)) (fun _ _ _ h => h) (Or.inl ⟨by rfl, ?_⟩) ?_ ?_
                        rotate_left
                        · intro w'
                          go_simp
                          with_reducible rfl
                        rotate_left
                        · simp only [Act.put, List.setIfInBounds_toArray, List.set_cons_zero, List.set_cons_succ, i64_w, i32_w]
                          rfl
                        refine pure_ (i := 9) (N := some 71) (v := ?_) (a' := ?_) #[true, true, true, true, true, true, true, true, true, true, false, false, false, false, false, false, false, false, false, false, false, false, false, false, false, false, false, false, false, false, false, false, false, false, false, false, false, false, false, false, false, false] rfl rfl (any_of HT_.out (by kernel_rfl)) (fun _ _ _ h => h) (Or.inl ⟨by rfl, ?_⟩) ?_ ?_
                        rotate_left
                        · intro w'
                          go_simp
                          with_reducible rfl
                        rotate_left
                        · simp only [Act.put, List.setIfInBounds_toArray, List.set_cons_zero, List.set_cons_succ, i64_w, i32_w]
                          rfl
                        refine pure_ (i := 10) (N := some 72) (v := ?_) (a' := ?_) #[true, true, true, true, true, true, true, true, true, true, true, false, false, false, false, false, false, false, false, false, false, false, false, false, false, false, false, false, false, false, false, false, false, false, false, false, false, false, false, false, false, false] rfl rfl (any_of HT_.out (by kernel_rfl)) (fun _ _ _ h => h) (Or.inl ⟨by rfl, ?_⟩) ?_ ?_
                        rotate_left
                        · intro w'
                          go_simp
                          with_reducible rfl
                        rotate_left
                        · simp only [Act.put, List.setIfInBounds_toArray, List.set_cons_zero, List.set_cons_succ, i64_w, i32_w]
                          rfl
                        refine take_ (i := 11) (N := some 73) (v := ?_) (a' := ?_) #[true, true, true, true, true, true, true, true, true, true, true, true, false, false, false, false, false, false, false, false, false, false, false, false, false, false, false, false, false, false, false, false, false, false, false, false, false, false, false, false, false, false] rfl rfl (take_ofW HT_.out HW_.out (by kernel_rfl)) (fun _ _ _ h => h) (Or.inl ⟨by rfl, ?_⟩) hHeld ?_ ?_
                        rotate_left
                        · rintro w' ⟨s0, s1, s2, s3, s4, s5⟩
                          go_simp
                          with_reducible rfl
                        rotate_left
                        · simp only [Act.put, List.setIfInBounds_toArray, List.set_cons_zero, List.set_cons_succ, i64_w, i32_w]
                          rfl
                        refine pure_ (i := 12) (N := some 74) (v := ?_) (a' := ?_) #[true, true, true, true, true, true, true, true, true, true, true, true, true, false, false, false, false, false, false, false, false, false, false, false, false, false, false, false, false, false, false, false, false, false, false, false, false, false, false, false, false, false] rfl rfl (any_of HT_.out (by kernel_rfl)) (fun _ _ _ h => h) (Or.inl ⟨by rfl, ?_⟩) ?_ ?_
                        rotate_left
                        · intro w'
                          go_simp
                          with_reducible rfl
                        rotate_left
                        · simp only [Act.put, List.setIfInBounds_toArray, List.set_cons_zero, List.set_cons_succ, i64_w, i32_w]
                          rfl
                        refine pure_ (i := 13) (N := some 75) (v := ?_) (a' := ?_) #[true, true, true, true, true, true, true, true, true, true, true, true, true, true, false, false, false, false, false, false, false, false, false, false, false, false, false, false, false, false, false, false, false, false, false, false, false, false, false, false, false, false] rfl rfl (any_of HT_.out (by kernel_rfl)) (fun _ _ _ h => h) (Or.inl ⟨by rfl, ?_⟩) ?_ ?_
                        rotate_left
                        · intro w'
                          go_simp
                          with_reducible rfl
                        rotate_left
                        · simp only [Act.put, List.setIfInBounds_toArray, List.set_cons_zero, List.set_cons_succ, i64_w, i32_w]
                          rfl
                        refine pure_ (i := 14) (N := some 76) (v := ?_) (a' := ?_) #[true, true, true, true, true, true, true, true, true, true, true, true, true, true, true, false, false, false, false, false, false, false, false, false, false, false, false, false, false, false, false, false, false, false, false, false, false, false, false, false, false, false] rfl rfl (any_of HT_.out (by kernel_rfl)) (fun _ _ _ h => h) (Or.inl ⟨by rfl, ?_⟩) ?_ ?_
                        rotate_left
                        · intro w'
                          go_simp
                          with_reducible rfl
                        rotate_left
                        · simp only [Act.put, List.setIfInBounds_toArray, List.set_cons_zero, List.set_cons_succ, i64_w, i32_w]
                          rfl
                        refine pure_ (i := 15) (N := some 77) (v := ?_) (a' := ?_) #[true, true, true, true, true, true, true, true, true, true, true, true, true, true, true, true, false, false, false, false, false, false, false, false, false, false, false, false, false, false, false, false, false, false, false, false, false, false, false, false, false, false] rfl rfl (any_of HT_.out (by kernel_rfl)) (fun _ _ _ h => h) (Or.inl ⟨by rfl, ?_⟩) ?_ ?_
                        rotate_left
                        · intro w'
                          go_simp
                          with_reducible rfl
                        rotate_left
                        · simp only [Act.put, List.setIfInBounds_toArray, List.set_cons_zero, List.set_cons_succ, i64_w, i32_w]
                          rfl
                        refine pure_ (i := 16) (N := some 78) (v := ?_) (a' := ?_) #[true, true, true, true, true, true, true, true, true, true, true, true, true, true, true, true, true, false, false, false, false, false, false, false, false, false, false, false, false, false, false, false, false, false, false, false, false, false, false, false, false, false] rfl rfl (any_of HT_.out (by kernel_rfl)) (fun _ _ _ h => h) (Or.inl ⟨by rfl, ?_⟩) ?_ ?_
                        rotate_left
                        · intro w'
                          go_simp
                          with_reducible rfl
                        rotate_left
                        · simp only [Act.put, List.setIfInBounds_toArray, List.set_cons_zero, List.set_cons_succ, i64_w, i32_w]
                          rfl
                        refine take_ (i := 17) (N := some 79) (v := ?_) (a' := ?_) #[true, true, true, true, true, true, true, true, true, true, true, true, true, true, true, true, true, true, false, false, false, false, false, false, false, false, false, false, false, false, false, false, false, false, false, false, false, false, false, false, false, false] rfl rfl (take_ofW HT_.out HW_.out (by kernel_rfl)) (fun _ _ _ h => h) (Or.inl ⟨by rfl, ?_⟩) hHeld ?_ ?_
                        rotate_left
                        · rintro w' ⟨s0, s1, s2, s3, s4, s5⟩
                          go_simp
                          with_reducible rfl
                        rotate_left
                        · simp only [Act.put, List.setIfInBounds_toArray, List.set_cons_zero, List.set_cons_succ, i64_w, i32_w]
                          rfl
                        refine pure_ (i := 18) (N := some 80) (v := ?_) (a' := ?_) #[true, true, true, true, true, true, true, true, true, true, true, true, true, true, true, true, true, true, true, false, false, false, false, false, false, false, false, false, false, false, false, false, false, false, false, false, false, false, false, false, false, false] rfl rfl (any_of HT_.out (by kernel_rfl)) (fun _ _ _ h => h) (Or.inl ⟨by rfl, ?_⟩) ?_ ?_
                        rotate_left
                        · intro w'
                          go_simp
                          with_reducible rfl
                        rotate_left
                        · simp only [Act.put, List.setIfInBounds_toArray, List.set_cons_zero, List.set_cons_succ, i64_w, i32_w]
                          rfl
                        refine pure_ (i := 19) (N := some 81) (v := ?_) (a' := ?_) #[true, true, true, true, true, true, true, true, true, true, true, true, true, true, true, true, true, true, true, true, false, false, false, false, false, false, false, false, false, false, false, false, false, false, false, false, false, false, false, false, false, false] rfl rfl (any_of HT_.out (by kernel_rfl)) (fun _ _ _ h => h) (Or.inl ⟨by rfl, ?_⟩) ?_ ?_
                        rotate_left
                        · intro w'
                          go_simp
                          with_reducible rfl
                        rotate_left
                        · simp only [Act.put, List.setIfInBounds_toArray, List.set_cons_zero, List.set_cons_succ, i64_w, i32_w]
                          rfl
                        refine pure_ (i := 20) (N := some 82) (v := ?_) (a' := ?_) #[true, true, true, true, true, true, true, true, true, true, true, true, true, true, true, true, true, true, true, true, true, false, false, false, false, false, false, false, false, false, false, false, false, false, false, false, false, false, false, false, false, false] rfl rfl (any_of HT_.out (by kernel_rfl)) (fun _ _ _ h => h) (Or.inl ⟨by rfl, ?_⟩) ?_ ?_
                        rotate_left
                        · intro w'
                          go_simp
                          with_reducible rfl
                        rotate_left
                        · simp only [Act.put, List.setIfInBounds_toArray, List.set_cons_zero, List.set_cons_succ, i64_w, i32_w]
                          rfl
                        refine pure_ (i := 21) (N := some 83) (v := ?_) (a' := ?_) #[true, true, true, true, true, true, true, true, true, true, true, true, true, true, true, true, true, true, true, true, true, true, false, false, false, false, false, false, false, false, false, false, false, false, false, false, false, false, false, false, false, false] rfl rfl (any_of HT_.out (by kernel_rfl)) (fun _ _ _ h => h) (Or.inl ⟨by rfl, ?_⟩) ?_ ?_
                        rotate_left
                        · intro w'
                          go_simp
                          with_reducible rfl
                        rotate_left
                        · simp only [Act.put, List.setIfInBounds_toArray, List.set_cons_zero, List.set_cons_succ, i64_w, i32_w]
                          rfl
                        refine pure_ (i := 22) (N := some 84) (v := ?_) (a' := ?_) #[true, true, true, true, true, true, true, true, true, true, true, true, true, true, true, true, true, true, true, true, true, true, true, false, false, false, false, false, false, false, false, false, false, false, false, false, false, false, false, false, false, false] rfl rfl (any_of HT_.out (by kernel_rfl)) (fun _ _ _ h => h) (Or.inl ⟨by rfl, ?_⟩) ?_ ?_
                        rotate_left
                        · intro w'
                          go_simp
                          with_reducible rfl
                        rotate_left
                        · simp only [Act.put, List.setIfInBounds_toArray, List.set_cons_zero, List.set_cons_succ, i64_w, i32_w]
                          rfl
                        refine take_ (i := 23) (N := some 85) (v := ?_) (a' := ?_) #[true, true, true, true, true, true, true, true, true, true, true, true, true, true, true, true, true, true, true, true, true, true, true, true, false, false, false, false, false, false, false, false, false, false, false, false, false, false, false, false, false, false] rfl rfl (take_ofW HT_.out HW_.out (by kernel_rfl)) (fun _ _ _ h => h) (Or.inl ⟨by rfl, ?_⟩) hHeld ?_ ?_
                        rotate_left
                        · rintro w' ⟨s0, s1, s2, s3, s4, s5⟩
                          go_simp
                          with_reducible rfl
                        rotate_left
                        · simp only [Act.put, List.setIfInBounds_toArray, List.set_cons_zero, List.set_cons_succ, i64_w, i32_w]
                          rfl
                        refine pure_ (i := 24) (N := some 86) (v := ?_) (a' := ?_) #[true, true, true, true, true, true, true, true, true, true, true, true, true, true, true, true, true, true, true, true, true, true, true, true, true, false, false, false, false, false, false, false, false, false, false, false, false, false, false, false, false, false] rfl rfl (any_of HT_.out (by kernel_rfl)) (fun _ _ _ h => h) (Or.inl ⟨by rfl, ?_⟩) ?_ ?_
                        rotate_left
                        · intro w'
                          go_simp
                          with_reducible rfl
                        rotate_left
                        · simp only [Act.put, List.setIfInBounds_toArray, List.set_cons_zero, List.set_cons_succ, i64_w, i32_w]
                          rfl
                        refine pure_ (i := 25) (N := some 87) (v := ?_) (a' := ?_) #[true, true, true, true, true, true, true, true, true, true, true, true, true, true, true, true, true, true, true, true, true, true, true, true, true, true, false, false, false, false, false, false, false, false, false, false, false, false, false, false, false, false] rfl rfl (any_of HT_.out (by kernel_rfl)) (fun _ _ _ h => h) (Or.inl ⟨by rfl, ?_⟩) ?_ ?_
                        rotate_left
                        · intro w'
                          go_simp
                          with_reducible rfl
                        rotate_left
                        · simp only [Act.put, List.setIfInBounds_toArray, List.set_cons_zero, List.set_cons_succ, i64_w, i32_w]
                          rfl
                        refine pure_ (i := 26) (N := some 88) (v := ?_) (a' := ?_) #[true, true, true, true, true, true, true, true, true, true, true, true, true, true, true, true, true, true, true, true, true, true, true, true, true, true, true, false, false, false, false, false, false, false, false, false, false, false, false, false, false, false] rfl rfl (any_of HT_.out (by kernel_rfl)) (fun _ _ _ h => h) (Or.inl ⟨by rfl, ?_⟩) ?_ ?_
                        rotate_left
                        · intro w'
                          go_simp
                          with_reducible rfl
                        rotate_left
                        · simp only [Act.put, List.setIfInBounds_toArray, List.set_cons_zero, List.set_cons_succ, i64_w, i32_w]
                          rfl
                        refine pure_ (i := 27) (N := some 89) (v := ?_) (a' := ?_) #[true, true, true, true, true, true, true, true, true, true, true, true, true, true, true, true, true, true, true, true, true, true, true, true, true, true, true, true, false, false, false, false, false, false, false, false, false, false, false, false, false, false] rfl rfl (any_of HT_.out (by kernel_rfl)) (fun _ _ _ h => h) (Or.inl ⟨by rfl, ?_⟩) ?_ ?_
                        rotate_left
                        · intro w'
                          go_simp
                          with_reducible rfl
                        rotate_left
                        · simp only [Act.put, List.setIfInBounds_toArray, List.set_cons_zero, List.set_cons_succ, i64_w, i32_w]
                          rfl
                        refine pure_ (i := 28) (N := some 90) (v := ?_) (a' := ?_) #[true, true, true, true, true, true, true, true, true, true, true, true, true, true, true, true, true, true, true, true, true, true, true, true, true, true, true, true, true, false, false, false, false, false, false, false, false, false, false, false, false, false] rfl rfl (any_of HT_.out (by kernel_rfl)) (fun _ _ _ h => h) (Or.inl ⟨by rfl, ?_⟩) ?_ ?_
                        rotate_left
                        · intro w'
                          go_simp
                          with_reducible rfl
                        rotate_left
                        · simp only [Act.put, List.setIfInBounds_toArray, List.set_cons_zero, List.set_cons_succ, i64_w, i32_w]
                          rfl
                        refine pure_ (i := 29) (N := some 91) (v := ?_) (a' := ?_) #[true, true, true, true, true, true, true, true, true, true, true, true, true, true, true, true, true, true, true, true, true, true, true, true, true, true, true, true, true, true, false, false, false, false, false, false, false, false, false, false, false, false] rfl rfl (any_of HT_.out (by kernel_rfl)) (fun _ _ _ h => h) (Or.inl ⟨by rfl, ?_⟩) ?_ ?_
                        rotate_left
                        · intro w'
                          go_simp
                          with_reducible rfl
                        rotate_left
                        · simp only [Act.put, List.setIfInBounds_toArray, List.set_cons_zero, List.set_cons_succ, i64_w, i32_w]
                          rfl
                        refine pure_ (i := 30) (N := some 92) (v := ?_) (a' := ?_) #[true, true, true, true, true, true, true, true, true, true, true, true, true, true, true, true, true, true, true, true, true, true, true, true, true, true, true, true, true, true, true, false, false, false, false, false, false, false, false, false, false, false] rfl rfl (any_of HT_.out (by kernel_rfl)) (fun _ _ _ h => h) (Or.inl ⟨by rfl, ?_⟩) ?_ ?_
                        rotate_left
                        · intro w'
                          go_simp
                          with_reducible rfl
                        rotate_left
                        · simp only [Act.put, List.setIfInBounds_toArray, List.set_cons_zero, List.set_cons_succ, i64_w, i32_w]
                          rfl
                        refine pure_ (i := 31) (N := some 93) (v := ?_) (a' := ?_) #[true, true, true, true, true, true, true, true, true, true, true, true, true, true, true, true, true, true, true, true, true, true, true, true, true, true, true, true, true, true, true, true, false, false, false, false, false, false, false, false, false, false] rfl rfl (any_of HT_.out (by kernel_rfl)) (fun _ _ _ h => h) (Or.inl ⟨by rfl, ?_⟩) ?_ ?_
                        rotate_left
                        · intro w'
                          go_simp
                          with_reducible rfl
                        rotate_left
                        · simp only [Act.put, List.setIfInBounds_toArray, List.set_cons_zero, List.set_cons_succ, i64_w, i32_w]
                          rfl
                        refine pure_ (i := 32) (N := some 94) (v := ?_) (a' := ?_) #[true, true, true, true, true, true, true, true, true, true, true, true, true, true, true, true, true, true, true, true, true, true, true, true, true, true, true, true, true, true, true, true, true, false, false, false, false, false, false, false, false, false] rfl rfl (any_of HT_.out (by kernel_rfl)) (fun _ _ _ h => h) (Or.inl ⟨by rfl, ?_⟩) ?_ ?_
                        rotate_left
                        · intro w'
                          go_simp
                          with_reducible rfl
                        rotate_left
                        · simp only [Act.put, List.setIfInBounds_toArray, List.set_cons_zero, List.set_cons_succ, i64_w, i32_w]
                          rfl
                        refine pure_ (i := 33) (N := some 95) (v := ?_) (a' := ?_) #[true, true, true, true, true, true, true, true, true, true, true, true, true, true, true, true, true, true, true, true, true, true, true, true, true, true, true, true, true, true, true, true, true, true, false, false, false, false, false, false, false, false] rfl rfl (any_of HT_.out (by kernel_rfl)) (fun _ _ _ h => h) (Or.inl ⟨by rfl, ?_⟩) ?_ ?_
                        rotate_left
                        · intro w'
                          go_simp
                          with_reducible rfl
                        rotate_left
                        · simp only [Act.put, List.setIfInBounds_toArray, List.set_cons_zero, List.set_cons_succ, i64_w, i32_w]
                          rfl
                        refine pure_ (i := 34) (N := some 96) (v := ?_) (a' := ?_) #[true, true, true, true, true, true, true, true, true, true, true, true, true, true, true, true, true, true, true, true, true, true, true, true, true, true, true, true, true, true, true, true, true, true, true, false, false, false, false, false, false, false] rfl rfl (any_of HT_.out (by kernel_rfl)) (fun _ _ _ h => h) (Or.inl ⟨by rfl, ?_⟩) ?_ ?_
                        rotate_left
                        · intro w'
                          go_simp
                          with_reducible rfl
                        rotate_left
                        · simp only [Act.put, List.setIfInBounds_toArray, List.set_cons_zero, List.set_cons_succ, i64_w, i32_w]
                          rfl
                        refine pure_ (i := 35) (N := some 97) (v := ?_) (a' := ?_) #[true, true, true, true, true, true, true, true, true, true, true, true, true, true, true, true, true, true, true, true, true, true, true, true, true, true, true, true, true, true, true, true, true, true, true, true, false, false, false, false, false, false] rfl rfl (any_of HT_.out (by kernel_rfl)) (fun _ _ _ h => h) (Or.inl ⟨by rfl, ?_⟩) ?_ ?_
                        rotate_left
                        · intro w'
                          go_simp
                          with_reducible rfl
                        rotate_left
                        · simp only [Act.put, List.setIfInBounds_toArray, List.set_cons_zero, List.set_cons_succ, i64_w, i32_w]
                          rfl
                        refine pure_ (i := 36) (N := some 98) (v := ?_) (a' := ?_) #[true, true, true, true, true, true, true, true, true, true, true, true, true, true, true, true, true, true, true, true, true, true, true, true, true, true, true, true, true, true, true, true, true, true, true, true, true, false, false, false, false, false] rfl rfl (any_of HT_.out (by kernel_rfl)) (fun _ _ _ h => h) (Or.inl ⟨by rfl, ?_⟩) ?_ ?_
                        rotate_left
                        · intro w'
                          go_simp
                          with_reducible rfl
                        rotate_left
                        · simp only [Act.put, List.setIfInBounds_toArray, List.set_cons_zero, List.set_cons_succ, i64_w, i32_w]
                          rfl
                        refine pure_ (i := 37) (N := some 99) (v := ?_) (a' := ?_) #[true, true, true, true, true, true, true, true, true, true, true, true, true, true, true, true, true, true, true, true, true, true, true, true, true, true, true, true, true, true, true, true, true, true, true, true, true, true, false, false, false, false] rfl rfl (any_of HT_.out (by kernel_rfl)) (fun _ _ _ h => h) (Or.inl ⟨by rfl, ?_⟩) ?_ ?_
                        rotate_left
                        · intro w'
                          go_simp
                          with_reducible rfl
                        rotate_left
                        · simp only [Act.put, List.setIfInBounds_toArray, List.set_cons_zero, List.set_cons_succ, i64_w, i32_w]
                          rfl
                        refine pure_ (i := 38) (N := some 100) (v := ?_) (a' := ?_) #[true, true, true, true, true, true, true, true, true, true, true, true, true, true, true, true, true, true, true, true, true, true, true, true, true, true, true, true, true, true, true, true, true, true, true, true, true, true, true, false, false, false] rfl rfl (any_of HT_.out (by kernel_rfl)) (fun _ _ _ h => h) (Or.inl ⟨by rfl, ?_⟩) ?_ ?_
                        rotate_left
                        · intro w'
                          go_simp
                          with_reducible rfl
                        rotate_left
                        · simp only [Act.put, List.setIfInBounds_toArray, List.set_cons_zero, List.set_cons_succ, i64_w, i32_w]
                          rfl
                        refine one_ (i := 39) (N := some 101) #[true, true, true, true, true, true, true, true, true, true, true, true, true, true, true, true, true, true, true, true, true, true, true, true, true, true, true, true, true, true, true, true, true, true, true, true, true, true, true, true, false, false] rfl rfl (one_of HT_.out (by kernel_rfl)) (by decide) (fun K hK => ?_)
                        refine goes_ Try.func28 (by kernel_rfl) rfl #[] (by rfl) rfl rfl (by (try simp only [List.map_toArray, List.map_cons, List.map_nil]); first | done | rfl | (simp only [List.length_drop, List.length_take]; rfl)) ?_
                        with_reducible refine (glebelaw7_awake.calls k  t198 _ A19.out).mono ?_
                        rintro e w55 ⟨rfl, hb⟩
                        refine ⟨_, rfl, ?_⟩
                        have n0_ := Aside0.mk (Kd.R_below (by (with_reducible repeat (first | apply Kd.R_alloc | apply Kd.R_drewN | apply Kd.R_drew)); exact HO167.out) hb)
                        have n1_ := Aside0.mk (Kd.V_below (by (with_reducible repeat (first | apply Kd.V_alloc | apply Kd.V_drewN | apply Kd.V_drew)); exact HO172.out) hb)
                        have n2_ := Aside0.mk (Kd.V_below (by (with_reducible repeat (first | apply Kd.V_alloc | apply Kd.V_drewN | apply Kd.V_drew)); exact HO177.out) hb)
                        have n3_ := Aside0.mk (Kd.V_below (by (with_reducible repeat (first | apply Kd.V_alloc | apply Kd.V_drewN | apply Kd.V_drew)); exact HO182.out) hb)
                        have n4_ := Aside0.mk (Kd.V_below (by (with_reducible repeat (first | apply Kd.V_alloc | apply Kd.V_drewN | apply Kd.V_drew)); exact HO187.out) hb)
                        have n5_ := Aside0.mk (Kd.V_below (by (with_reducible repeat (first | apply Kd.V_alloc | apply Kd.V_drewN | apply Kd.V_drew)); exact HO194.out) hb)
                        have n6_ := Aside0.mk (Kd.R_below (by (with_reducible repeat (first | apply Kd.R_alloc | apply Kd.R_drewN | apply Kd.R_drew)); exact HO197.out) hb)
                        have n7_ := Aside0.mk (blk_below (g := gb169) (o := .cells #[.string ((rd_T51 y165 (ji3)).f0), .int .i64 ((rd_T51 y165 (ji3)).f1), .int .i64 ((rd_T51 y165 (ji3)).f2), .int .i64 ((rd_T51 y165 (ji3)).f3), .int .i64 ((rd_T51 y165 (ji3)).f4), .int .i64 ((rd_T51 y165 (ji3)).f5)] 51 (0, 0)) (by (with_reducible repeat (first | refine blk_drewN ?_ _ | refine blk_drew ?_ | refine blk_alloc ?_ _)); exact BK169.out) hb)
                        have n8_ := Aside0.mk (blk_below (g := gb191) (o := .cells #[.int .i64 t188, .int .i64 t189] 26 (0, 0)) (by (with_reducible repeat (first | refine blk_drewN ?_ _ | refine blk_drew ?_ | refine blk_alloc ?_ _)); exact BK191.out) hb)
                        have n9_ := Aside0.mk (below_step (by repeat (first | (with_reducible first | exact HB.out | apply below_alloc | apply pw_below_drewN | apply below_drew1 | refine below_set ?_ GE169.out | refine below_set ?_ GE191.out) | exact HB.out)) hb)
                        clear HO167
                        clear HO172
                        clear HO177
                        clear HO182
                        clear HO187
                        clear HO194
                        clear HO197
                        clear BK169
                        clear BK191
                        clear HB
                        have HO167 := n0_
                        have HO172 := n1_
                        have HO177 := n2_
                        have HO182 := n3_
                        have HO187 := n4_
                        have HO194 := n5_
                        have HO197 := n6_
                        have BK169 := n7_
                        have BK191 := n8_
                        have HB := n9_
                        clear n0_ n1_ n2_ n3_ n4_ n5_ n6_ n7_ n8_ n9_
                        (try clear hb)
                        (try clear hb2)
                        (try clear hk)
                        (try clear hi)
                        refine hK.out _ _ ⟨(blk_cell BK169.out 0).trans rfl, (blk_cell BK169.out 1).trans rfl, (blk_cell BK169.out 2).trans rfl, (blk_cell BK169.out 3).trans rfl, (blk_cell BK169.out 4).trans rfl, (blk_cell BK169.out 5).trans rfl⟩ (fun hHeld => ?_)
                        clear hK K
                        refine norm_ (a' := ?_) ?_ ?_
                        rotate_left
                        · show Act.put _ (some 101) _ = _
                          simp only [Act.put, List.setIfInBounds_toArray, List.set_cons_zero, List.set_cons_succ, i64_w, i32_w]
                          rfl
                        refine pure_ (i := 40) (N := some 102) (v := ?_) (a' := ?_) #[true, true, true, true, true, true, true, true, true, true, true, true, true, true, true, true, true, true, true, true, true, true, true, true, true, true, true, true, true, true, true, true, true, true, true, true, true, true, true, true, true, false] rfl rfl (any_of HT_.out (by kernel_rfl)) (fun _ _ _ h => h) (Or.inl ⟨by rfl, ?_⟩) ?_ ?_
                        rotate_left
                        · intro w'
                          go_simp
                          with_reducible rfl
                        rotate_left
                        · simp only [Act.put, List.setIfInBounds_toArray, List.set_cons_zero, List.set_cons_succ, i64_w, i32_w]
                          rfl
                        refine pure_ (i := 41) (N := some 2) (v := ?_) (a' := ?_) #[true, true, true, true, true, true, true, true, true, true, true, true, true, true, true, true, true, true, true, true, true, true, true, true, true, true, true, true, true, true, true, true, true, true, true, true, true, true, true, true, true, true] rfl rfl (any_of HT_.out (by kernel_rfl)) (fun _ _ _ h => h) (Or.inl ⟨by rfl, ?_⟩) ?_ ?_
                        rotate_left
                        · intro w'
                          go_simp
                          with_reducible rfl
                        rotate_left
                        · simp only [Act.put, List.setIfInBounds_toArray, List.set_cons_zero, List.set_cons_succ, i64_w, i32_w]
                          rfl
                        refine done_ (done_of HT_.out (by kernel_rfl)) ?_
                        try go_wp2
                        go_ret
                        exact ⟨by first | rfl | (simp [errW_none, errW_some] <;> rfl) | (simp only [← hji3]; first | rfl | (simp [errW_none, errW_some] <;> rfl)) | (simp [*, errW_none, errW_some] <;> rfl), by repeat (first | (with_reducible first | exact HB.out | apply below_alloc | apply pw_below_drewN | apply below_drew1 | refine below_set ?_ GE169.out | refine below_set ?_ GE191.out) | exact HB.out)⟩
                    · rw [if_neg c17] at H
                      exact absurd H (by simp)
                  · rw [if_neg c16] at H
                    exact absurd H (by simp)
                · rw [if_neg c15] at H
                  exact absurd H (by simp)
              · rw [if_neg c14] at H
                exact absurd H (by simp)
            · rw [if_neg c13] at H
              exact absurd H (by simp)
          · rw [if_neg c12] at H
            exact absurd H (by simp)
        · rw [if_neg c6] at H
          exact absurd H (by simp)
      · rw [if_neg c5] at H
        exact absurd H (by simp)
    · rw [if_neg c4] at H
      exact absurd H (by simp)

/-- THE ONE PURE STATEMENT of glebelaw7_ScanForms: yours. -/
def glebelaw7_ScanForms.Pure : Prop := ∀ (a0 : Int), (Lit.int .i64 a0).wf = true → ∃ k, glebelaw7_ScanForms.f k a0 = some true
theorem glebelaw7_ScanForms.walk (P : glebelaw7_ScanForms.Pure) (a0 : Int) (w : World) (w0 : (Lit.int .i64 a0).wf = true) :
    Calls Try.prog 10 #[.int .i64 a0] w fun e w' => e = .returned (.bool true) ∧ Below w.heap.size w w' := by
  obtain ⟨k, h⟩ := P a0 w0
  refine (glebelaw7_ScanForms.calls k a0 true w h).mono ?_
  rintro e w' ⟨rfl, hd⟩
  exact ⟨rfl, hd⟩

end Go.Proofs.Ytnkcffmklomfhaa.Y
