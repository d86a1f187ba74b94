-- Printed by this session's own program (wip/xprint) out of the translation. Lean checks it.
import Derived.Test.YtnkcffmklomfhaaDx0
import Derived.Test.YtnkcffmklomfhaaDx1
import Derived.Test.YtnkcffmklomfhaaDx5
import Derived.Test.YtnkcffmklomfhaaDx6
namespace Go.Proofs.Ytnkcffmklomfhaa.D
open Go.Proofs.Ytnkcffmklomfhaa
open Go.RowKit Go.Proofs.YtnkcffmklomfhaaW.PrintWords Go.Proofs.YtnkcffmklomfhaaW.PrintLast Go.Proofs.YtnkcffmklomfhaaW.PrintMore
attribute [local go_sem] max2_int min2_int max_two min_two max_three min_three max_four min_four   -- for this text's walks alone
set_option linter.unusedVariables false
set_option linter.unusedSimpArgs false

attribute [local go_sem high] eqA26
/-! ### glebelaw10_DnslForms: function 7 -/
def glebelaw10_DnslForms.l0 : Nat → List (S47) → Int → Int → Int → ByteArray → Int → Int → Int → Int → Int → Int → Option (Bool)
  | 0, _, _, _, _, _, _, _, _, _, _, _ => none
  | k + 1, x5, x7, x45, x46, x223000, x223001, x223002, x223003, x223004, x232000, x232001 => if x46 < x45 then (if 0 ≤ x46 then (if x46 < (x5.length : Int) then (glebelaw10_DnslForms.l0 k x5 (wrap64 (x7 + (((rd_T47 x5 x46).f1).length : Int))) x45 (wrap64 (x46 + 1)) x223000 x223001 x223002 x223003 x223004 x232000 x232001) else (none)) else (none)) else (if (x5.length : Int) = x223001 then (if x7 = x223002 then (if (x232000 == x223003 && (x232001 == x223004)) = true then ((glebelaw10_awake.f k).bind fun t233 => (some t233)) else (none)) else (none)) else (none))
def glebelaw10_DnslForms.f (k : Nat) (a0 : Int) : Option (Bool) := (some (([(⟨(⟨#[]⟩ : ByteArray), 0, 0, 0, 0⟩ : S41), (⟨(⟨#[10, 10]⟩ : ByteArray), 0, 0, 0, 0⟩ : S41), (⟨(⟨#[35, 10, 35, 32, 97, 61, 98]⟩ : ByteArray), 0, 0, 0, 0⟩ : S41), (⟨(⟨#[97, 61]⟩ : ByteArray), 1, 1, 0, 0⟩ : S41), (⟨(⟨#[97, 61, 98, 44, 99]⟩ : ByteArray), 1, 2, 0, 0⟩ : S41), (⟨(⟨#[97, 45, 98, 61, 44, 44, 10, 99, 61, 100, 13, 10]⟩ : ByteArray), 2, 4, 0, 0⟩ : S41), (⟨(⟨#[97, 61, 98, 61, 99]⟩ : ByteArray), 1, 1, 0, 0⟩ : S41), (⟨(⟨#[97, 61, 35]⟩ : ByteArray), 1, 1, 0, 0⟩ : S41), (⟨(⟨#[97]⟩ : ByteArray), 0, 0, 1, 1⟩ : S41), (⟨(⟨#[97, 10]⟩ : ByteArray), 0, 0, 1, 1⟩ : S41), (⟨(⟨#[61]⟩ : ByteArray), 0, 0, 1, 0⟩ : S41), (⟨(⟨#[32, 97, 61, 98]⟩ : ByteArray), 0, 0, 1, 0⟩ : S41), (⟨(⟨#[97, 32, 61, 98]⟩ : ByteArray), 0, 0, 1, 1⟩ : S41), (⟨(⟨#[65, 61, 98]⟩ : ByteArray), 0, 0, 1, 0⟩ : S41), (⟨(⟨#[97, 49, 61, 98]⟩ : ByteArray), 0, 0, 1, 1⟩ : S41), (⟨(⟨#[97, 61, 9, 98]⟩ : ByteArray), 0, 0, 1, 2⟩ : S41), (⟨(⟨#[97, 61, 195, 169]⟩ : ByteArray), 0, 0, 1, 2⟩ : S41), (⟨(⟨#[97, 61, 98, 10, 10, 98]⟩ : ByteArray), 0, 0, 1, 6⟩ : S41), (⟨(⟨#[97, 61, 98, 13]⟩ : ByteArray), 0, 0, 1, 3⟩ : S41)] : List (S41)) : List (S41))).bind fun y218 => (if (y218.length : Int) = 0 then (none) else (if 0 ≤ (Int.tmod (Go.bits .and .i64 a0 255) (y218.length : Int)) then (if (Int.tmod (Go.bits .and .i64 a0 255) (y218.length : Int)) < (y218.length : Int) then (if ((rd_T41 y218 (Int.tmod (Go.bits .and .i64 a0 255) (y218.length : Int))).f0).size ≤ 9223372036854775807 then ((dnsl_Parse.f k (bytesOf ((rd_T41 y218 (Int.tmod (Go.bits .and .i64 a0 255) (y218.length : Int))).f0))).bind fun bt226 => (glebelaw10_DnslForms.l0 k bt226.1 0 (bt226.1.length : Int) 0 ((rd_T41 y218 (Int.tmod (Go.bits .and .i64 a0 255) (y218.length : Int))).f0) ((rd_T41 y218 (Int.tmod (Go.bits .and .i64 a0 255) (y218.length : Int))).f1) ((rd_T41 y218 (Int.tmod (Go.bits .and .i64 a0 255) (y218.length : Int))).f2) ((rd_T41 y218 (Int.tmod (Go.bits .and .i64 a0 255) (y218.length : Int))).f3) ((rd_T41 y218 (Int.tmod (Go.bits .and .i64 a0 255) (y218.length : Int))).f4) bt226.2.1 bt226.2.2)) else (none)) else (none)) else (none)))
theorem glebelaw10_DnslForms.mono_l : ∀ k, (∀ y0 y1 y2 y3 y4 y5 y6 y7 y8 y9 y10, LeO (glebelaw10_DnslForms.l0 k y0 y1 y2 y3 y4 y5 y6 y7 y8 y9 y10) (glebelaw10_DnslForms.l0 (k + 1) y0 y1 y2 y3 y4 y5 y6 y7 y8 y9 y10))
  | 0 => fun _ _ _ _ _ _ _ _ _ _ _ r h => by simp [glebelaw10_DnslForms.l0] at h
  | k + 1 => by
    have ih0 := glebelaw10_DnslForms.mono_l k
    · intro y0 y1 y2 y3 y4 y5 y6 y7 y8 y9 y10
      unfold glebelaw10_DnslForms.l0
      repeat' first
      | (with_reducible exact ih0 _ _ _ _ _ _ _ _ _ _ _)
      | (with_reducible exact dnsl_Parse.mono _ _)
      | (with_reducible exact glebelaw10_awake.mono _)
      | (with_reducible exact LeO.refl _)
      | (with_reducible exact LeO.none _)
      | (with_reducible refine LeO.ite ?_ ?_)
      | (with_reducible refine LeO.bind ?_ (fun _ => ?_))
      | exact ih0 _ _ _ _ _ _ _ _ _ _ _
      | exact dnsl_Parse.mono _ _
      | exact glebelaw10_awake.mono _
      | exact LeO.none _
      | refine LeO.ite ?_ ?_
      | refine LeO.bind ?_ (fun _ => ?_)
theorem glebelaw10_DnslForms.mono : ∀ a0 k, LeO (glebelaw10_DnslForms.f k a0) (glebelaw10_DnslForms.f (k + 1) a0) := by
  intro a0 k
  have ih0 := glebelaw10_DnslForms.mono_l k
  unfold glebelaw10_DnslForms.f
  repeat' first
      | (with_reducible exact ih0 _ _ _ _ _ _ _ _ _ _ _)
      | (with_reducible exact dnsl_Parse.mono _ _)
      | (with_reducible exact glebelaw10_awake.mono _)
      | (with_reducible exact LeO.refl _)
      | (with_reducible exact LeO.none _)
      | (with_reducible refine LeO.ite ?_ ?_)
      | (with_reducible refine LeO.bind ?_ (fun _ => ?_))
      | exact ih0 _ _ _ _ _ _ _ _ _ _ _
      | exact dnsl_Parse.mono _ _
      | exact glebelaw10_awake.mono _
      | exact LeO.none _
      | refine LeO.ite ?_ ?_
      | refine LeO.bind ?_ (fun _ => ?_)
set_option maxHeartbeats 8000000 in
set_option maxRecDepth 100000 in
theorem glebelaw10_DnslForms.calls (k : Nat) (a0 : Int) (r : Bool) (w : World) (h : glebelaw10_DnslForms.f k a0 = some r) :
    Calls Try.prog 7 #[.int .i64 a0] w fun e w' => e = .returned (.bool r) ∧ Below w.heap.size w w' := by
  have hu41 := Try.underlying41
  have hu26 := Try.underlying26
  have HB := Aside0.mk (Below.refl w.heap.size w)
  have H : ((some (([(⟨(⟨#[]⟩ : ByteArray), 0, 0, 0, 0⟩ : S41), (⟨(⟨#[10, 10]⟩ : ByteArray), 0, 0, 0, 0⟩ : S41), (⟨(⟨#[35, 10, 35, 32, 97, 61, 98]⟩ : ByteArray), 0, 0, 0, 0⟩ : S41), (⟨(⟨#[97, 61]⟩ : ByteArray), 1, 1, 0, 0⟩ : S41), (⟨(⟨#[97, 61, 98, 44, 99]⟩ : ByteArray), 1, 2, 0, 0⟩ : S41), (⟨(⟨#[97, 45, 98, 61, 44, 44, 10, 99, 61, 100, 13, 10]⟩ : ByteArray), 2, 4, 0, 0⟩ : S41), (⟨(⟨#[97, 61, 98, 61, 99]⟩ : ByteArray), 1, 1, 0, 0⟩ : S41), (⟨(⟨#[97, 61, 35]⟩ : ByteArray), 1, 1, 0, 0⟩ : S41), (⟨(⟨#[97]⟩ : ByteArray), 0, 0, 1, 1⟩ : S41), (⟨(⟨#[97, 10]⟩ : ByteArray), 0, 0, 1, 1⟩ : S41), (⟨(⟨#[61]⟩ : ByteArray), 0, 0, 1, 0⟩ : S41), (⟨(⟨#[32, 97, 61, 98]⟩ : ByteArray), 0, 0, 1, 0⟩ : S41), (⟨(⟨#[97, 32, 61, 98]⟩ : ByteArray), 0, 0, 1, 1⟩ : S41), (⟨(⟨#[65, 61, 98]⟩ : ByteArray), 0, 0, 1, 0⟩ : S41), (⟨(⟨#[97, 49, 61, 98]⟩ : ByteArray), 0, 0, 1, 1⟩ : S41), (⟨(⟨#[97, 61, 9, 98]⟩ : ByteArray), 0, 0, 1, 2⟩ : S41), (⟨(⟨#[97, 61, 195, 169]⟩ : ByteArray), 0, 0, 1, 2⟩ : S41), (⟨(⟨#[97, 61, 98, 10, 10, 98]⟩ : ByteArray), 0, 0, 1, 6⟩ : S41), (⟨(⟨#[97, 61, 98, 13]⟩ : ByteArray), 0, 0, 1, 3⟩ : S41)] : List (S41)) : List (S41))).bind fun y218 => (if (y218.length : Int) = 0 then (none) else (if 0 ≤ (Int.tmod (Go.bits .and .i64 a0 255) (y218.length : Int)) then (if (Int.tmod (Go.bits .and .i64 a0 255) (y218.length : Int)) < (y218.length : Int) then (if ((rd_T41 y218 (Int.tmod (Go.bits .and .i64 a0 255) (y218.length : Int))).f0).size ≤ 9223372036854775807 then ((dnsl_Parse.f k (bytesOf ((rd_T41 y218 (Int.tmod (Go.bits .and .i64 a0 255) (y218.length : Int))).f0))).bind fun bt226 => (glebelaw10_DnslForms.l0 k bt226.1 0 (bt226.1.length : Int) 0 ((rd_T41 y218 (Int.tmod (Go.bits .and .i64 a0 255) (y218.length : Int))).f0) ((rd_T41 y218 (Int.tmod (Go.bits .and .i64 a0 255) (y218.length : Int))).f1) ((rd_T41 y218 (Int.tmod (Go.bits .and .i64 a0 255) (y218.length : Int))).f2) ((rd_T41 y218 (Int.tmod (Go.bits .and .i64 a0 255) (y218.length : Int))).f3) ((rd_T41 y218 (Int.tmod (Go.bits .and .i64 a0 255) (y218.length : Int))).f4) bt226.2.1 bt226.2.2)) else (none)) else (none)) else (none)))) = some r := h
  clear h
  obtain ⟨y218, hy218⟩ : ∃ y_ : List (S41), y_ = (([(⟨(⟨#[]⟩ : ByteArray), 0, 0, 0, 0⟩ : S41), (⟨(⟨#[10, 10]⟩ : ByteArray), 0, 0, 0, 0⟩ : S41), (⟨(⟨#[35, 10, 35, 32, 97, 61, 98]⟩ : ByteArray), 0, 0, 0, 0⟩ : S41), (⟨(⟨#[97, 61]⟩ : ByteArray), 1, 1, 0, 0⟩ : S41), (⟨(⟨#[97, 61, 98, 44, 99]⟩ : ByteArray), 1, 2, 0, 0⟩ : S41), (⟨(⟨#[97, 45, 98, 61, 44, 44, 10, 99, 61, 100, 13, 10]⟩ : ByteArray), 2, 4, 0, 0⟩ : S41), (⟨(⟨#[97, 61, 98, 61, 99]⟩ : ByteArray), 1, 1, 0, 0⟩ : S41), (⟨(⟨#[97, 61, 35]⟩ : ByteArray), 1, 1, 0, 0⟩ : S41), (⟨(⟨#[97]⟩ : ByteArray), 0, 0, 1, 1⟩ : S41), (⟨(⟨#[97, 10]⟩ : ByteArray), 0, 0, 1, 1⟩ : S41), (⟨(⟨#[61]⟩ : ByteArray), 0, 0, 1, 0⟩ : S41), (⟨(⟨#[32, 97, 61, 98]⟩ : ByteArray), 0, 0, 1, 0⟩ : S41), (⟨(⟨#[97, 32, 61, 98]⟩ : ByteArray), 0, 0, 1, 1⟩ : S41), (⟨(⟨#[65, 61, 98]⟩ : ByteArray), 0, 0, 1, 0⟩ : S41), (⟨(⟨#[97, 49, 61, 98]⟩ : ByteArray), 0, 0, 1, 1⟩ : S41), (⟨(⟨#[97, 61, 9, 98]⟩ : ByteArray), 0, 0, 1, 2⟩ : S41), (⟨(⟨#[97, 61, 195, 169]⟩ : ByteArray), 0, 0, 1, 2⟩ : S41), (⟨(⟨#[97, 61, 98, 10, 10, 98]⟩ : ByteArray), 0, 0, 1, 6⟩ : S41), (⟨(⟨#[97, 61, 98, 13]⟩ : ByteArray), 0, 0, 1, 3⟩ : S41)] : List (S41))) := ⟨_, rfl⟩
  replace H : (if (y218.length : Int) = 0 then (none) else (if 0 ≤ (Int.tmod (Go.bits .and .i64 a0 255) (y218.length : Int)) then (if (Int.tmod (Go.bits .and .i64 a0 255) (y218.length : Int)) < (y218.length : Int) then (if ((rd_T41 y218 (Int.tmod (Go.bits .and .i64 a0 255) (y218.length : Int))).f0).size ≤ 9223372036854775807 then ((dnsl_Parse.f k (bytesOf ((rd_T41 y218 (Int.tmod (Go.bits .and .i64 a0 255) (y218.length : Int))).f0))).bind fun bt226 => (glebelaw10_DnslForms.l0 k bt226.1 0 (bt226.1.length : Int) 0 ((rd_T41 y218 (Int.tmod (Go.bits .and .i64 a0 255) (y218.length : Int))).f0) ((rd_T41 y218 (Int.tmod (Go.bits .and .i64 a0 255) (y218.length : Int))).f1) ((rd_T41 y218 (Int.tmod (Go.bits .and .i64 a0 255) (y218.length : Int))).f2) ((rd_T41 y218 (Int.tmod (Go.bits .and .i64 a0 255) (y218.length : Int))).f3) ((rd_T41 y218 (Int.tmod (Go.bits .and .i64 a0 255) (y218.length : Int))).f4) bt226.2.1 bt226.2.2)) else (none)) else (none)) else (none))) = some r := by first | (rw [hy218]; with_reducible exact H) | (have H2_ := (Option.bind_some _ _).symm.trans H; rw [hy218]; with_reducible exact H2_) | (have H2_ := (Option.bind_some _ _).symm.trans H; with_reducible exact H2_) | with_reducible exact H | (rw [hy218]; exact H) | exact H
  have Ny218 := Aside0.mk hy218
  clear hy218
  by_cases c2 : (y218.length : Int) = 0
  · rw [if_pos c2] at H
    exact absurd H (by simp)
  · rw [if_neg c2] at H
    have c2b0 : ((y218.length : Int) == 0) = false := beq_eq_false_iff_ne.mpr c2
    have c2b1 : ((y218.length : Int) != 0) = true := bne_iff_ne.mpr c2
    have c2b2 : ¬ (y218 = []) := fun h_ => c2 (by rw [h_]; rfl)
    obtain ⟨ji3, hji3⟩ : ∃ j_ : Int, (Int.tmod (Go.bits .and .i64 a0 255) (y218.length : Int)) = j_ := ⟨_, rfl⟩
    replace H : (if 0 ≤ (ji3) then (if (ji3) < (y218.length : Int) then (if ((rd_T41 y218 (ji3)).f0).size ≤ 9223372036854775807 then ((dnsl_Parse.f k (bytesOf ((rd_T41 y218 (ji3)).f0))).bind fun bt226 => (glebelaw10_DnslForms.l0 k bt226.1 0 (bt226.1.length : Int) 0 ((rd_T41 y218 (ji3)).f0) ((rd_T41 y218 (ji3)).f1) ((rd_T41 y218 (ji3)).f2) ((rd_T41 y218 (ji3)).f3) ((rd_T41 y218 (ji3)).f4) bt226.2.1 bt226.2.2)) else (none)) else (none)) else (none)) = some r := by first | (rw [hji3] at H; exact H) | (simp only [hji3] at H ⊢; exact H)
    by_cases c4 : 0 ≤ (ji3)
    · rw [if_pos c4] at H
      have c4b0 : decide (0 ≤ (ji3)) = true := decide_eq_true c4
      clear c4
      by_cases c5 : (ji3) < (y218.length : Int)
      · rw [if_pos c5] at H
        have c5b0 : decide ((ji3) < (y218.length : Int)) = true := decide_eq_true c5
        clear c5
        by_cases c6 : ((rd_T41 y218 (ji3)).f0).size ≤ 9223372036854775807
        · rw [if_pos c6] at H
          have c6b0 := eq_true c6
          have c6b1 : decide (((rd_T41 y218 (ji3)).f0).size ≤ 9223372036854775807) = true := decide_eq_true c6
          try have c6b2 : (9223372036854775807 < ((rd_T41 y218 (ji3)).f0).size) = False := eq_false (Nat.not_lt.2 c6)
          clear c6
          obtain ⟨y223, hy223⟩ : ∃ y_ : List Int, y_ = (bytesOf ((rd_T41 y218 (ji3)).f0)) := ⟨_, rfl⟩
          replace H : ((dnsl_Parse.f k y223).bind fun bt226 => (glebelaw10_DnslForms.l0 k bt226.1 0 (bt226.1.length : Int) 0 ((rd_T41 y218 (ji3)).f0) ((rd_T41 y218 (ji3)).f1) ((rd_T41 y218 (ji3)).f2) ((rd_T41 y218 (ji3)).f3) ((rd_T41 y218 (ji3)).f4) bt226.2.1 bt226.2.2)) = some r := by first | (rw [hy223]; with_reducible exact H) | (have H2_ := (Option.bind_some _ _).symm.trans H; rw [hy223]; with_reducible exact H2_) | (have H2_ := (Option.bind_some _ _).symm.trans H; with_reducible exact H2_) | with_reducible exact H | (rw [hy223]; exact H) | exact H
          have Ny223 := Aside0.mk hy223
          clear hy223
          replace H := Option.bind_eq_some_iff.mp H
          obtain ⟨⟨t226, t229, t230⟩, A70, H⟩ := H
          replace H : (glebelaw10_DnslForms.l0 k t226 0 (t226.length : Int) 0 ((rd_T41 y218 (ji3)).f0) ((rd_T41 y218 (ji3)).f1) ((rd_T41 y218 (ji3)).f2) ((rd_T41 y218 (ji3)).f3) ((rd_T41 y218 (ji3)).f4) t229 t230) = some r := H
          have A7 := Aside0.mk A70
          clear A70
          have H' := Aside0.mk H
          clear H
          go_enter Try.func7, Try.ntmps7
          go_wp2_with (first | ((with_reducible refine gate_dst (N := 28) rfl ?_); refine Kd.R_lit k41 _ 41 ?hg (N := 28) ?hd (xs := ([(⟨(⟨#[]⟩ : ByteArray), 0, 0, 0, 0⟩ : S41), (⟨(⟨#[10, 10]⟩ : ByteArray), 0, 0, 0, 0⟩ : S41), (⟨(⟨#[35, 10, 35, 32, 97, 61, 98]⟩ : ByteArray), 0, 0, 0, 0⟩ : S41), (⟨(⟨#[97, 61]⟩ : ByteArray), 1, 1, 0, 0⟩ : S41), (⟨(⟨#[97, 61, 98, 44, 99]⟩ : ByteArray), 1, 2, 0, 0⟩ : S41), (⟨(⟨#[97, 45, 98, 61, 44, 44, 10, 99, 61, 100, 13, 10]⟩ : ByteArray), 2, 4, 0, 0⟩ : S41), (⟨(⟨#[97, 61, 98, 61, 99]⟩ : ByteArray), 1, 1, 0, 0⟩ : S41), (⟨(⟨#[97, 61, 35]⟩ : ByteArray), 1, 1, 0, 0⟩ : S41), (⟨(⟨#[97]⟩ : ByteArray), 0, 0, 1, 1⟩ : S41), (⟨(⟨#[97, 10]⟩ : ByteArray), 0, 0, 1, 1⟩ : S41), (⟨(⟨#[61]⟩ : ByteArray), 0, 0, 1, 0⟩ : S41), (⟨(⟨#[32, 97, 61, 98]⟩ : ByteArray), 0, 0, 1, 0⟩ : S41), (⟨(⟨#[97, 32, 61, 98]⟩ : ByteArray), 0, 0, 1, 1⟩ : S41), (⟨(⟨#[65, 61, 98]⟩ : ByteArray), 0, 0, 1, 0⟩ : S41), (⟨(⟨#[97, 49, 61, 98]⟩ : ByteArray), 0, 0, 1, 1⟩ : S41), (⟨(⟨#[97, 61, 9, 98]⟩ : ByteArray), 0, 0, 1, 2⟩ : S41), (⟨(⟨#[97, 61, 195, 169]⟩ : ByteArray), 0, 0, 1, 2⟩ : S41), (⟨(⟨#[97, 61, 98, 10, 10, 98]⟩ : ByteArray), 0, 0, 1, 6⟩ : S41), (⟨(⟨#[97, 61, 98, 13]⟩ : ByteArray), 0, 0, 1, 3⟩ : S41)] : List (S41))) (inner := [.string (⟨#[]⟩ : ByteArray), .int .i64 0, .int .i64 0, .int .i64 0, .int .i64 0, .string (⟨#[10, 10]⟩ : ByteArray), .int .i64 0, .int .i64 0, .int .i64 0, .int .i64 0, .string (⟨#[35, 10, 35, 32, 97, 61, 98]⟩ : ByteArray), .int .i64 0, .int .i64 0, .int .i64 0, .int .i64 0, .string (⟨#[97, 61]⟩ : ByteArray), .int .i64 1, .int .i64 1, .int .i64 0, .int .i64 0, .string (⟨#[97, 61, 98, 44, 99]⟩ : ByteArray), .int .i64 1, .int .i64 2, .int .i64 0, .int .i64 0, .string (⟨#[97, 45, 98, 61, 44, 44, 10, 99, 61, 100, 13, 10]⟩ : ByteArray), .int .i64 2, .int .i64 4, .int .i64 0, .int .i64 0, .string (⟨#[97, 61, 98, 61, 99]⟩ : ByteArray), .int .i64 1, .int .i64 1, .int .i64 0, .int .i64 0, .string (⟨#[97, 61, 35]⟩ : ByteArray), .int .i64 1, .int .i64 1, .int .i64 0, .int .i64 0, .string (⟨#[97]⟩ : ByteArray), .int .i64 0, .int .i64 0, .int .i64 1, .int .i64 1, .string (⟨#[97, 10]⟩ : ByteArray), .int .i64 0, .int .i64 0, .int .i64 1, .int .i64 1, .string (⟨#[61]⟩ : ByteArray), .int .i64 0, .int .i64 0, .int .i64 1, .int .i64 0, .string (⟨#[32, 97, 61, 98]⟩ : ByteArray), .int .i64 0, .int .i64 0, .int .i64 1, .int .i64 0, .string (⟨#[97, 32, 61, 98]⟩ : ByteArray), .int .i64 0, .int .i64 0, .int .i64 1, .int .i64 1, .string (⟨#[65, 61, 98]⟩ : ByteArray), .int .i64 0, .int .i64 0, .int .i64 1, .int .i64 0, .string (⟨#[97, 49, 61, 98]⟩ : ByteArray), .int .i64 0, .int .i64 0, .int .i64 1, .int .i64 1, .string (⟨#[97, 61, 9, 98]⟩ : ByteArray), .int .i64 0, .int .i64 0, .int .i64 1, .int .i64 2, .string (⟨#[97, 61, 195, 169]⟩ : ByteArray), .int .i64 0, .int .i64 0, .int .i64 1, .int .i64 2, .string (⟨#[97, 61, 98, 10, 10, 98]⟩ : ByteArray), .int .i64 0, .int .i64 0, .int .i64 1, .int .i64 6, .string (⟨#[97, 61, 98, 13]⟩ : ByteArray), .int .i64 0, .int .i64 0, .int .i64 1, .int .i64 3]) (ok := fun _ => True) (okp := fun _ => True) ?hr ?hp (fun _ hk => hk) trivial (Below.refl _ _) (Nat.le_refl _) (by simp) ?_; (case hd => rfl); (case hg => rfl); (case hr => first | (go_simp; done) | (go_simp; rfl)); (case hp => exact (Reps.c5 (show Kd.M k41 _ _ _ (⟨(⟨#[]⟩ : ByteArray), 0, 0, 0, 0⟩ : S41) [.string (⟨#[]⟩ : ByteArray), .int .i64 0, .int .i64 0, .int .i64 0, .int .i64 0] from (k41_mkM _ _ _ (⟨(⟨#[]⟩ : ByteArray), 0, 0, 0, 0⟩ : S41) )) (Reps.c5 (show Kd.M k41 _ _ _ (⟨(⟨#[10, 10]⟩ : ByteArray), 0, 0, 0, 0⟩ : S41) [.string (⟨#[10, 10]⟩ : ByteArray), .int .i64 0, .int .i64 0, .int .i64 0, .int .i64 0] from (k41_mkM _ _ _ (⟨(⟨#[10, 10]⟩ : ByteArray), 0, 0, 0, 0⟩ : S41) )) (Reps.c5 (show Kd.M k41 _ _ _ (⟨(⟨#[35, 10, 35, 32, 97, 61, 98]⟩ : ByteArray), 0, 0, 0, 0⟩ : S41) [.string (⟨#[35, 10, 35, 32, 97, 61, 98]⟩ : ByteArray), .int .i64 0, .int .i64 0, .int .i64 0, .int .i64 0] from (k41_mkM _ _ _ (⟨(⟨#[35, 10, 35, 32, 97, 61, 98]⟩ : ByteArray), 0, 0, 0, 0⟩ : S41) )) (Reps.c5 (show Kd.M k41 _ _ _ (⟨(⟨#[97, 61]⟩ : ByteArray), 1, 1, 0, 0⟩ : S41) [.string (⟨#[97, 61]⟩ : ByteArray), .int .i64 1, .int .i64 1, .int .i64 0, .int .i64 0] from (k41_mkM _ _ _ (⟨(⟨#[97, 61]⟩ : ByteArray), 1, 1, 0, 0⟩ : S41) )) (Reps.c5 (show Kd.M k41 _ _ _ (⟨(⟨#[97, 61, 98, 44, 99]⟩ : ByteArray), 1, 2, 0, 0⟩ : S41) [.string (⟨#[97, 61, 98, 44, 99]⟩ : ByteArray), .int .i64 1, .int .i64 2, .int .i64 0, .int .i64 0] from (k41_mkM _ _ _ (⟨(⟨#[97, 61, 98, 44, 99]⟩ : ByteArray), 1, 2, 0, 0⟩ : S41) )) (Reps.c5 (show Kd.M k41 _ _ _ (⟨(⟨#[97, 45, 98, 61, 44, 44, 10, 99, 61, 100, 13, 10]⟩ : ByteArray), 2, 4, 0, 0⟩ : S41) [.string (⟨#[97, 45, 98, 61, 44, 44, 10, 99, 61, 100, 13, 10]⟩ : ByteArray), .int .i64 2, .int .i64 4, .int .i64 0, .int .i64 0] from (k41_mkM _ _ _ (⟨(⟨#[97, 45, 98, 61, 44, 44, 10, 99, 61, 100, 13, 10]⟩ : ByteArray), 2, 4, 0, 0⟩ : S41) )) (Reps.c5 (show Kd.M k41 _ _ _ (⟨(⟨#[97, 61, 98, 61, 99]⟩ : ByteArray), 1, 1, 0, 0⟩ : S41) [.string (⟨#[97, 61, 98, 61, 99]⟩ : ByteArray), .int .i64 1, .int .i64 1, .int .i64 0, .int .i64 0] from (k41_mkM _ _ _ (⟨(⟨#[97, 61, 98, 61, 99]⟩ : ByteArray), 1, 1, 0, 0⟩ : S41) )) (Reps.c5 (show Kd.M k41 _ _ _ (⟨(⟨#[97, 61, 35]⟩ : ByteArray), 1, 1, 0, 0⟩ : S41) [.string (⟨#[97, 61, 35]⟩ : ByteArray), .int .i64 1, .int .i64 1, .int .i64 0, .int .i64 0] from (k41_mkM _ _ _ (⟨(⟨#[97, 61, 35]⟩ : ByteArray), 1, 1, 0, 0⟩ : S41) )) (Reps.c5 (show Kd.M k41 _ _ _ (⟨(⟨#[97]⟩ : ByteArray), 0, 0, 1, 1⟩ : S41) [.string (⟨#[97]⟩ : ByteArray), .int .i64 0, .int .i64 0, .int .i64 1, .int .i64 1] from (k41_mkM _ _ _ (⟨(⟨#[97]⟩ : ByteArray), 0, 0, 1, 1⟩ : S41) )) (Reps.c5 (show Kd.M k41 _ _ _ (⟨(⟨#[97, 10]⟩ : ByteArray), 0, 0, 1, 1⟩ : S41) [.string (⟨#[97, 10]⟩ : ByteArray), .int .i64 0, .int .i64 0, .int .i64 1, .int .i64 1] from (k41_mkM _ _ _ (⟨(⟨#[97, 10]⟩ : ByteArray), 0, 0, 1, 1⟩ : S41) )) (Reps.c5 (show Kd.M k41 _ _ _ (⟨(⟨#[61]⟩ : ByteArray), 0, 0, 1, 0⟩ : S41) [.string (⟨#[61]⟩ : ByteArray), .int .i64 0, .int .i64 0, .int .i64 1, .int .i64 0] from (k41_mkM _ _ _ (⟨(⟨#[61]⟩ : ByteArray), 0, 0, 1, 0⟩ : S41) )) (Reps.c5 (show Kd.M k41 _ _ _ (⟨(⟨#[32, 97, 61, 98]⟩ : ByteArray), 0, 0, 1, 0⟩ : S41) [.string (⟨#[32, 97, 61, 98]⟩ : ByteArray), .int .i64 0, .int .i64 0, .int .i64 1, .int .i64 0] from (k41_mkM _ _ _ (⟨(⟨#[32, 97, 61, 98]⟩ : ByteArray), 0, 0, 1, 0⟩ : S41) )) (Reps.c5 (show Kd.M k41 _ _ _ (⟨(⟨#[97, 32, 61, 98]⟩ : ByteArray), 0, 0, 1, 1⟩ : S41) [.string (⟨#[97, 32, 61, 98]⟩ : ByteArray), .int .i64 0, .int .i64 0, .int .i64 1, .int .i64 1] from (k41_mkM _ _ _ (⟨(⟨#[97, 32, 61, 98]⟩ : ByteArray), 0, 0, 1, 1⟩ : S41) )) (Reps.c5 (show Kd.M k41 _ _ _ (⟨(⟨#[65, 61, 98]⟩ : ByteArray), 0, 0, 1, 0⟩ : S41) [.string (⟨#[65, 61, 98]⟩ : ByteArray), .int .i64 0, .int .i64 0, .int .i64 1, .int .i64 0] from (k41_mkM _ _ _ (⟨(⟨#[65, 61, 98]⟩ : ByteArray), 0, 0, 1, 0⟩ : S41) )) (Reps.c5 (show Kd.M k41 _ _ _ (⟨(⟨#[97, 49, 61, 98]⟩ : ByteArray), 0, 0, 1, 1⟩ : S41) [.string (⟨#[97, 49, 61, 98]⟩ : ByteArray), .int .i64 0, .int .i64 0, .int .i64 1, .int .i64 1] from (k41_mkM _ _ _ (⟨(⟨#[97, 49, 61, 98]⟩ : ByteArray), 0, 0, 1, 1⟩ : S41) )) (Reps.c5 (show Kd.M k41 _ _ _ (⟨(⟨#[97, 61, 9, 98]⟩ : ByteArray), 0, 0, 1, 2⟩ : S41) [.string (⟨#[97, 61, 9, 98]⟩ : ByteArray), .int .i64 0, .int .i64 0, .int .i64 1, .int .i64 2] from (k41_mkM _ _ _ (⟨(⟨#[97, 61, 9, 98]⟩ : ByteArray), 0, 0, 1, 2⟩ : S41) )) (Reps.c5 (show Kd.M k41 _ _ _ (⟨(⟨#[97, 61, 195, 169]⟩ : ByteArray), 0, 0, 1, 2⟩ : S41) [.string (⟨#[97, 61, 195, 169]⟩ : ByteArray), .int .i64 0, .int .i64 0, .int .i64 1, .int .i64 2] from (k41_mkM _ _ _ (⟨(⟨#[97, 61, 195, 169]⟩ : ByteArray), 0, 0, 1, 2⟩ : S41) )) (Reps.c5 (show Kd.M k41 _ _ _ (⟨(⟨#[97, 61, 98, 10, 10, 98]⟩ : ByteArray), 0, 0, 1, 6⟩ : S41) [.string (⟨#[97, 61, 98, 10, 10, 98]⟩ : ByteArray), .int .i64 0, .int .i64 0, .int .i64 1, .int .i64 6] from (k41_mkM _ _ _ (⟨(⟨#[97, 61, 98, 10, 10, 98]⟩ : ByteArray), 0, 0, 1, 6⟩ : S41) )) (Reps.c5 (show Kd.M k41 _ _ _ (⟨(⟨#[97, 61, 98, 13]⟩ : ByteArray), 0, 0, 1, 3⟩ : S41) [.string (⟨#[97, 61, 98, 13]⟩ : ByteArray), .int .i64 0, .int .i64 0, .int .i64 1, .int .i64 3] from (k41_mkM _ _ _ (⟨(⟨#[97, 61, 98, 13]⟩ : ByteArray), 0, 0, 1, 3⟩ : S41) )) (Reps.none _ _))))))))))))))))))))); intro v219 w8 ho9 hb hg_ hnew_; clear hg_ hnew_; (first | rw [← Ny218.out] at ho9 | (simp only [Int.reduceToNat] at ho9; rw [← Ny218.out] at ho9)); have n0_ := Aside0.mk (Kd.R_lower ho9 (below_size (by repeat (first | (with_reducible first | exact HB.out | apply below_alloc | apply pw_below_drewN | apply below_drew1) | exact HB.out)))); have n1_ := Aside0.mk (below_step (by repeat (first | (with_reducible first | exact HB.out | apply below_alloc | apply pw_below_drewN | apply below_drew1) | exact HB.out)) hb); clear HB; have HO220 := n0_; have HB := n1_; clear n0_ n1_; clear hb ho9; obtain ⟨Ao10, co10, eo10⟩ := Kd.R_slice HO220.out; subst eo10; have p221 : 0 ≤ ((ji3) : Int) := of_decide_eq_true (by first | (with_reducible assumption) | assumption); have q221 : (ji3) < (y218.length : Int) := of_decide_eq_true (by first | (with_reducible assumption) | assumption); obtain ⟨ad221, e221, hx221_0, hx221_1, hx221_2, hx221_3, hx221_4⟩ := at_T41 (Kd.R_reads' HO220.out).2.2 (ji3) p221 q221; cases e221; replace p221 := eq_true p221; replace q221 := eq_true q221) | ((with_reducible refine gate_dst (N := 4) rfl ?_); refine box_event ?hg (N := 4) ?hd (cs := #[.string (⟨#[]⟩ : ByteArray), .int .i64 0, .int .i64 0, .int .i64 0, .int .i64 0]) (t := 41) ?hr ?_; (case hd => rfl); (case hg => rfl); (case hr => first | (go_simp; done) | (go_simp; rfl)); intro gb222 hg w11 hbox hb; have n0_ := Aside0.mk (Kd.R_below (Kd.R_elderB (by (with_reducible repeat (first | apply Kd.R_alloc | apply Kd.R_drewN | apply Kd.R_drew)); exact HO220.out) gb222 (Nat.le_of_eq hg.symm)) hb); have n1_ := Aside0.mk (below_step (by repeat (first | (with_reducible first | exact HB.out | apply below_alloc | apply pw_below_drewN | apply below_drew1) | exact HB.out)) hb); have n2_ := Aside0.mk (hbox); have n3_ := Aside0.mk ((by rw [hg]; exact (below_size (by repeat (first | (with_reducible first | exact HB.out | apply below_alloc | apply pw_below_drewN | apply below_drew1) | exact HB.out))) : w.heap.size ≤ gb222)); have n4_ := Aside0.mk ((by rw [hg]; exact (below_size (by repeat (first | (with_reducible first | exact HB.out | apply below_alloc | apply pw_below_drewN | apply below_drew1) | exact HB.out))) : w.heap.size ≤ gb222)); clear HO220; clear HB; have HO220 := n0_; have HB := n1_; have BK222 := n2_; have GW222 := n3_; have GE222 := n4_; clear n0_ n1_ n2_ n3_ n4_; clear hb hbox hg; have hcz12_0 : w11.cell? ⟨gb222, 0, none⟩ = some (.string (⟨#[]⟩ : ByteArray)) := (blk_cell BK222.out 0).trans rfl; have hcz12_1 : w11.cell? ⟨gb222, 1, none⟩ = some (.int .i64 0) := (blk_cell BK222.out 1).trans rfl; have hcz12_2 : w11.cell? ⟨gb222, 2, none⟩ = some (.int .i64 0) := (blk_cell BK222.out 2).trans rfl; have hcz12_3 : w11.cell? ⟨gb222, 3, none⟩ = some (.int .i64 0) := (blk_cell BK222.out 3).trans rfl; have hcz12_4 : w11.cell? ⟨gb222, 4, none⟩ = some (.int .i64 0) := (blk_cell BK222.out 4).trans rfl; have hfz12_0 := blk_frozen BK222.out 0; have hfz12_1 := blk_frozen BK222.out 1; have hfz12_2 := blk_frozen BK222.out 2; have hfz12_3 := blk_frozen BK222.out 3; have hfz12_4 := blk_frozen BK222.out 4) | ((with_reducible refine gate_dst (N := 40) rfl ?_); refine XW.V_bytes _ 5 rfl (N := 40) rfl 9 29 _ rfl ((rd_T41 y218 (ji3)).f0) rfl Try.underlying9 Try.underlying29 Try.underlying5 (by have h_ : ((rd_T41 y218 (ji3)).f0).size ≤ 9223372036854775807 := of_decide_eq_true (by first | (with_reducible assumption) | assumption); first | exact h_ | (simp only [ByteArray.size_append]; exact h_)) (ok := (fun k_ => some k_ ≠ (.slice (some ad221) y218.length co10 : Value).ownBlock ∧ k_ ≠ gb222)) (fun k_ hk => ⟨Kd.fresh' (Kd.R_lt (by (with_reducible repeat (first | apply Kd.R_alloc | apply Kd.R_drewN | apply Kd.R_drew)); exact (Kd.R_mono (Kd.R_far (p := ⟨gb222, 4, none⟩) (Kd.R_far (p := ⟨gb222, 3, none⟩) (Kd.R_far (p := ⟨gb222, 2, none⟩) (Kd.R_far (p := ⟨gb222, 1, none⟩) (Kd.R_far (p := ⟨gb222, 0, none⟩) (Kd.R_mono HO220.out (fun k_ hk => (⟨hk, hk.2⟩ : _ ∧ k_ ≠ gb222))) (fun _ hk => hk.2) (.string ((rd_T41 y218 (ji3)).f0))) (fun _ hk => hk.2) (.int .i64 ((rd_T41 y218 (ji3)).f1))) (fun _ hk => hk.2) (.int .i64 ((rd_T41 y218 (ji3)).f2))) (fun _ hk => hk.2) (.int .i64 ((rd_T41 y218 (ji3)).f3))) (fun _ hk => hk.2) (.int .i64 ((rd_T41 y218 (ji3)).f4))) (fun _ h_ => h_.1)))) k_ hk, Kd.freshB (g := gb222) (o := .cells #[.string ((rd_T41 y218 (ji3)).f0), .int .i64 ((rd_T41 y218 (ji3)).f1), .int .i64 ((rd_T41 y218 (ji3)).f2), .int .i64 ((rd_T41 y218 (ji3)).f3), .int .i64 ((rd_T41 y218 (ji3)).f4)] 41 (0, 0)) (by (with_reducible repeat (first | refine blk_drewN ?_ _ | refine blk_drew ?_ | refine blk_alloc ?_ _)); refine blk_put (cs := #[.string ((rd_T41 y218 (ji3)).f0), .int .i64 ((rd_T41 y218 (ji3)).f1), .int .i64 ((rd_T41 y218 (ji3)).f2), .int .i64 ((rd_T41 y218 (ji3)).f3), .int .i64 0]) ?_ 4 _ rfl; (with_reducible repeat (first | refine blk_drewN ?_ _ | refine blk_drew ?_ | refine blk_alloc ?_ _)); refine blk_put (cs := #[.string ((rd_T41 y218 (ji3)).f0), .int .i64 ((rd_T41 y218 (ji3)).f1), .int .i64 ((rd_T41 y218 (ji3)).f2), .int .i64 0, .int .i64 0]) ?_ 3 _ rfl; (with_reducible repeat (first | refine blk_drewN ?_ _ | refine blk_drew ?_ | refine blk_alloc ?_ _)); refine blk_put (cs := #[.string ((rd_T41 y218 (ji3)).f0), .int .i64 ((rd_T41 y218 (ji3)).f1), .int .i64 0, .int .i64 0, .int .i64 0]) ?_ 2 _ rfl; (with_reducible repeat (first | refine blk_drewN ?_ _ | refine blk_drew ?_ | refine blk_alloc ?_ _)); refine blk_put (cs := #[.string ((rd_T41 y218 (ji3)).f0), .int .i64 0, .int .i64 0, .int .i64 0, .int .i64 0]) ?_ 1 _ rfl; (with_reducible repeat (first | refine blk_drewN ?_ _ | refine blk_drew ?_ | refine blk_alloc ?_ _)); refine blk_put (cs := #[.string (⟨#[]⟩ : ByteArray), .int .i64 0, .int .i64 0, .int .i64 0, .int .i64 0]) ?_ 0 _ rfl; (with_reducible repeat (first | refine blk_drewN ?_ _ | refine blk_drew ?_ | refine blk_alloc ?_ _)); exact BK222.out) k_ hk⟩) (Below.refl _ _) (Nat.le_refl _) ?_; intro v224 w13 ho14 hb hg_ hnew_; clear hg_ hnew_; (first | rw [← Ny223.out] at ho14 | (simp only [Int.reduceToNat] at ho14; rw [← Ny223.out] at ho14)); have n0_ := Aside0.mk (Kd.R_below (by (with_reducible repeat (first | apply Kd.R_alloc | apply Kd.R_drewN | apply Kd.R_drew)); exact (Kd.R_mono (Kd.R_far (p := ⟨gb222, 4, none⟩) (Kd.R_far (p := ⟨gb222, 3, none⟩) (Kd.R_far (p := ⟨gb222, 2, none⟩) (Kd.R_far (p := ⟨gb222, 1, none⟩) (Kd.R_far (p := ⟨gb222, 0, none⟩) (Kd.R_mono HO220.out (fun k_ hk => (⟨hk, hk.2⟩ : _ ∧ k_ ≠ gb222))) (fun _ hk => hk.2) (.string ((rd_T41 y218 (ji3)).f0))) (fun _ hk => hk.2) (.int .i64 ((rd_T41 y218 (ji3)).f1))) (fun _ hk => hk.2) (.int .i64 ((rd_T41 y218 (ji3)).f2))) (fun _ hk => hk.2) (.int .i64 ((rd_T41 y218 (ji3)).f3))) (fun _ hk => hk.2) (.int .i64 ((rd_T41 y218 (ji3)).f4))) (fun _ h_ => h_.1))) hb); have n1_ := Aside0.mk (Kd.V_lower ho14 (below_size (by repeat (first | (with_reducible first | exact HB.out | apply below_alloc | apply pw_below_drewN | apply below_drew1 | refine below_set ?_ GE222.out) | exact HB.out)))); have n2_ := Aside0.mk (blk_below (g := gb222) (o := .cells #[.string ((rd_T41 y218 (ji3)).f0), .int .i64 ((rd_T41 y218 (ji3)).f1), .int .i64 ((rd_T41 y218 (ji3)).f2), .int .i64 ((rd_T41 y218 (ji3)).f3), .int .i64 ((rd_T41 y218 (ji3)).f4)] 41 (0, 0)) (by (with_reducible repeat (first | refine blk_drewN ?_ _ | refine blk_drew ?_ | refine blk_alloc ?_ _)); refine blk_put (cs := #[.string ((rd_T41 y218 (ji3)).f0), .int .i64 ((rd_T41 y218 (ji3)).f1), .int .i64 ((rd_T41 y218 (ji3)).f2), .int .i64 ((rd_T41 y218 (ji3)).f3), .int .i64 0]) ?_ 4 _ rfl; (with_reducible repeat (first | refine blk_drewN ?_ _ | refine blk_drew ?_ | refine blk_alloc ?_ _)); refine blk_put (cs := #[.string ((rd_T41 y218 (ji3)).f0), .int .i64 ((rd_T41 y218 (ji3)).f1), .int .i64 ((rd_T41 y218 (ji3)).f2), .int .i64 0, .int .i64 0]) ?_ 3 _ rfl; (with_reducible repeat (first | refine blk_drewN ?_ _ | refine blk_drew ?_ | refine blk_alloc ?_ _)); refine blk_put (cs := #[.string ((rd_T41 y218 (ji3)).f0), .int .i64 ((rd_T41 y218 (ji3)).f1), .int .i64 0, .int .i64 0, .int .i64 0]) ?_ 2 _ rfl; (with_reducible repeat (first | refine blk_drewN ?_ _ | refine blk_drew ?_ | refine blk_alloc ?_ _)); refine blk_put (cs := #[.string ((rd_T41 y218 (ji3)).f0), .int .i64 0, .int .i64 0, .int .i64 0, .int .i64 0]) ?_ 1 _ rfl; (with_reducible repeat (first | refine blk_drewN ?_ _ | refine blk_drew ?_ | refine blk_alloc ?_ _)); refine blk_put (cs := #[.string (⟨#[]⟩ : ByteArray), .int .i64 0, .int .i64 0, .int .i64 0, .int .i64 0]) ?_ 0 _ rfl; (with_reducible repeat (first | refine blk_drewN ?_ _ | refine blk_drew ?_ | refine blk_alloc ?_ _)); exact BK222.out) hb); have n3_ := Aside0.mk (below_step (by repeat (first | (with_reducible first | exact HB.out | apply below_alloc | apply pw_below_drewN | apply below_drew1 | refine below_set ?_ GE222.out) | exact HB.out)) hb); clear HO220; clear BK222; clear HB; have HO220 := n0_; have HO225 := n1_; have BK222 := n2_; have HB := n3_; clear n0_ n1_ n2_ n3_; clear hb ho14; obtain ⟨Ao15, co15, eo15⟩ := Kd.V_slice HO225.out; subst eo15) | ((with_reducible refine gate_callee (f := 21) rfl ?_); refine goesL_ (some 41) rfl rfl Try.func21 (by kernel_rfl) rfl #[.slice Ao15 y223.length co15] rfl (by (try simp only [List.map_toArray, List.map_cons, List.map_nil]); first | done | rfl | (simp only [List.length_drop, List.length_take]; rfl)) ?_; (with_reducible refine (dnsl_Parse.calls k _ _ y223 t226 t229 t230 _ ?side1 ?side2 A7.out).mono ?_); (case side1 => repeat (first | exact (Kd.V_reads' HO225.out).2.2 | (with_reducible refine Kd.C_alloc ?_ _) | (with_reducible refine Kd.C_drewN ?_ _) | (with_reducible refine Kd.C_drew ?_))); (case side2 => exact (Kd.V_reads' HO225.out).2.1); rintro e w16 ⟨v227, rfl, ho0, hb⟩; refine ⟨_, rfl, ?_⟩; have n0_ := Aside0.mk (Kd.R_below (by (with_reducible repeat (first | apply Kd.R_alloc | apply Kd.R_drewN | apply Kd.R_drew)); exact HO220.out) hb); have n1_ := Aside0.mk (Kd.V_elder' (by (with_reducible repeat (first | apply Kd.V_alloc | apply Kd.V_drewN | apply Kd.V_drew)); exact HO225.out) (Kd.S_base ho0) hb); have n2_ := Aside0.mk (Kd.S_lower ho0 (below_size (by repeat (first | (with_reducible first | exact HB.out | apply below_alloc | apply pw_below_drewN | apply below_drew1 | refine below_set ?_ GE222.out) | exact HB.out)))); have n3_ := Aside0.mk (blk_below (g := gb222) (o := .cells #[.string ((rd_T41 y218 (ji3)).f0), .int .i64 ((rd_T41 y218 (ji3)).f1), .int .i64 ((rd_T41 y218 (ji3)).f2), .int .i64 ((rd_T41 y218 (ji3)).f3), .int .i64 ((rd_T41 y218 (ji3)).f4)] 41 (0, 0)) (by (with_reducible repeat (first | refine blk_drewN ?_ _ | refine blk_drew ?_ | refine blk_alloc ?_ _)); exact BK222.out) hb); have n4_ := Aside0.mk (below_step (by repeat (first | (with_reducible first | exact HB.out | apply below_alloc | apply pw_below_drewN | apply below_drew1 | refine below_set ?_ GE222.out) | exact HB.out)) hb); clear HO220; clear HO225; clear BK222; clear HB; have HO220 := n0_; have HO225 := n1_; have HO228 := n2_; have BK222 := n3_; have HB := n4_; clear n0_ n1_ n2_ n3_ n4_; (try clear hb); (try clear hb2); (try clear hk); (try clear hi); (try clear ho0)) | ((with_reducible refine gate_dst (N := 6) rfl ?_); refine box_event ?hg (N := 6) ?hd (cs := #[.int .i64 0, .int .i64 0]) (t := 26) ?hr ?_; (case hd => rfl); (case hg => rfl); (case hr => first | (go_simp; done) | (go_simp; rfl)); intro gb231 hg w17 hbox hb; have n0_ := Aside0.mk (Kd.R_below (by (with_reducible repeat (first | apply Kd.R_alloc | apply Kd.R_drewN | apply Kd.R_drew)); exact HO220.out) hb); have n1_ := Aside0.mk (Kd.V_below (Kd.V_elderB (by (with_reducible repeat (first | apply Kd.V_alloc | apply Kd.V_drewN | apply Kd.V_drew)); exact HO225.out) gb231 (Nat.le_of_eq hg.symm)) hb); have n2_ := Aside0.mk (Kd.S_below (by (with_reducible repeat (first | apply Kd.S_alloc | apply Kd.S_drewN | apply Kd.S_drew)); exact HO228.out) hb); have n3_ := Aside0.mk (blk_below (g := gb222) (o := .cells #[.string ((rd_T41 y218 (ji3)).f0), .int .i64 ((rd_T41 y218 (ji3)).f1), .int .i64 ((rd_T41 y218 (ji3)).f2), .int .i64 ((rd_T41 y218 (ji3)).f3), .int .i64 ((rd_T41 y218 (ji3)).f4)] 41 (0, 0)) (by (with_reducible repeat (first | refine blk_drewN ?_ _ | refine blk_drew ?_ | refine blk_alloc ?_ _)); exact BK222.out) hb); have n4_ := Aside0.mk (below_step (by repeat (first | (with_reducible first | exact HB.out | apply below_alloc | apply pw_below_drewN | apply below_drew1 | refine below_set ?_ GE222.out) | exact HB.out)) hb); have n5_ := Aside0.mk (hbox); have n6_ := Aside0.mk ((by rw [hg]; exact (below_size (by repeat (first | (with_reducible first | exact HB.out | apply below_alloc | apply pw_below_drewN | apply below_drew1 | refine below_set ?_ GE222.out) | exact HB.out))) : w.heap.size ≤ gb231)); have n7_ := Aside0.mk ((by rw [hg]; exact (below_size (by repeat (first | (with_reducible first | exact HB.out | apply below_alloc | apply pw_below_drewN | apply below_drew1 | refine below_set ?_ GE222.out) | exact HB.out))) : w.heap.size ≤ gb231)); have n8_ := Aside0.mk ((by rw [hg]; exact Nat.ne_of_lt (blk_lt (g := gb222) (o := .cells #[.string ((rd_T41 y218 (ji3)).f0), .int .i64 ((rd_T41 y218 (ji3)).f1), .int .i64 ((rd_T41 y218 (ji3)).f2), .int .i64 ((rd_T41 y218 (ji3)).f3), .int .i64 ((rd_T41 y218 (ji3)).f4)] 41 (0, 0)) (by (with_reducible repeat (first | refine blk_drewN ?_ _ | refine blk_drew ?_ | refine blk_alloc ?_ _)); exact BK222.out)) : gb222 ≠ gb231)); have n9_ := Aside0.mk ((by rw [hg]; exact Nat.ne_of_gt (blk_lt (g := gb222) (o := .cells #[.string ((rd_T41 y218 (ji3)).f0), .int .i64 ((rd_T41 y218 (ji3)).f1), .int .i64 ((rd_T41 y218 (ji3)).f2), .int .i64 ((rd_T41 y218 (ji3)).f3), .int .i64 ((rd_T41 y218 (ji3)).f4)] 41 (0, 0)) (by (with_reducible repeat (first | refine blk_drewN ?_ _ | refine blk_drew ?_ | refine blk_alloc ?_ _)); exact BK222.out)) : gb231 ≠ gb222)); clear HO220; clear HO225; clear HO228; clear BK222; clear HB; have HO220 := n0_; have HO225 := n1_; have HO228 := n2_; have BK222 := n3_; have HB := n4_; have BK231 := n5_; have GW231 := n6_; have GE231 := n7_; have NB222_231 := n8_; have NB231_222 := n9_; clear n0_ n1_ n2_ n3_ n4_ n5_ n6_ n7_ n8_ n9_; clear hb hbox hg; have hnb18 := NB231_222.out; have hnc18 := NB222_231.out; have hcz19_0 : w17.cell? ⟨gb231, 0, none⟩ = some (.int .i64 0) := (blk_cell BK231.out 0).trans rfl; have hcz19_1 : w17.cell? ⟨gb231, 1, none⟩ = some (.int .i64 0) := (blk_cell BK231.out 1).trans rfl; have hfz19_0 := blk_frozen BK231.out 0; have hfz19_1 := blk_frozen BK231.out 1; obtain ⟨Ao20, co20, eo20⟩ := Kd.S_slice HO228.out; subst eo20))
          go_loopg [7, 46] k (fun kq v7 v46 w' => ∃ (x7_1 : Int) (x46_1 : Int), v7 = .int .i64 x7_1 ∧ v46 = .int .i64 x46_1 ∧ Aside0 (glebelaw10_DnslForms.l0 kq t226 x7_1 (t226.length : Int) x46_1 ((rd_T41 y218 (ji3)).f0) ((rd_T41 y218 (ji3)).f1) ((rd_T41 y218 (ji3)).f2) ((rd_T41 y218 (ji3)).f3) ((rd_T41 y218 (ji3)).f4) t229 t230 = some r) ∧ Aside0 (kq ≤ k) ∧ Aside0 (Kd.S k47 47 w' w.heap.size (fun _ => True) (.slice Ao20 t226.length co20) t226) ∧ Aside0 (w'.heap[gb222]? = some (.cells #[.string ((rd_T41 y218 (ji3)).f0), .int .i64 ((rd_T41 y218 (ji3)).f1), .int .i64 ((rd_T41 y218 (ji3)).f2), .int .i64 ((rd_T41 y218 (ji3)).f3), .int .i64 ((rd_T41 y218 (ji3)).f4)] 41 (0, 0))) ∧ Aside0 (w'.heap[gb231]? = some (.cells #[.int .i64 t229, .int .i64 t230] 26 (0, 0))) ∧ Aside0 (Below w.heap.size w w'))
          case atStart => exact ⟨(0), (0), (by first | rfl | (simp; done) | (simp [*]; done)), (by first | rfl | (simp; done) | (simp [*]; done)), H', ⟨Nat.le_refl _⟩, ⟨by (with_reducible repeat (first | apply Kd.S_alloc | apply Kd.S_drewN | apply Kd.S_drew)); exact Kd.S_mono (Kd.S_far (p := ⟨gb231, 1, none⟩) (Kd.S_far (p := ⟨gb231, 0, none⟩) (Kd.S_types HO228.out BK231.out (by decide)) (fun _ hk => hk.2) (.int .i64 t229)) (fun _ hk => hk.2) (.int .i64 t230)) (fun _ hk => trivial)⟩, ⟨by (with_reducible repeat (first | refine blk_drewN ?_ _ | refine blk_drew ?_ | refine blk_alloc ?_ _)); refine blk_far ?_ NB222_231.out _; (with_reducible repeat (first | refine blk_drewN ?_ _ | refine blk_drew ?_ | refine blk_alloc ?_ _)); refine blk_far ?_ NB222_231.out _; (with_reducible repeat (first | refine blk_drewN ?_ _ | refine blk_drew ?_ | refine blk_alloc ?_ _)); exact BK222.out⟩, ⟨by (with_reducible repeat (first | refine blk_drewN ?_ _ | refine blk_drew ?_ | refine blk_alloc ?_ _)); refine blk_put (cs := #[.int .i64 t229, .int .i64 0]) ?_ 1 _ rfl; (with_reducible repeat (first | refine blk_drewN ?_ _ | refine blk_drew ?_ | refine blk_alloc ?_ _)); refine blk_put (cs := #[.int .i64 0, .int .i64 0]) ?_ 0 _ rfl; (with_reducible repeat (first | refine blk_drewN ?_ _ | refine blk_drew ?_ | refine blk_alloc ?_ _)); exact BK231.out⟩, ⟨by repeat (first | (with_reducible first | exact HB.out | apply below_alloc | apply pw_below_drewN | apply below_drew1 | refine below_set ?_ GE222.out | refine below_set ?_ GE231.out) | exact HB.out)⟩⟩
          case round =>
            clear H'
            try clear c1
            try clear c2
            try clear c2b0
            try clear c2b1
            try clear c2b2
            try clear p2
            try clear q2
            try clear hx2
            try clear c4
            try clear c4b0
            try clear c5
            try clear c5b0
            try clear c6
            try clear c6b0
            try clear c6b1
            try clear c6b2
            try clear c7
            try clear c18
            try clear hcz12_0
            try clear hcz12_1
            try clear hcz12_2
            try clear hcz12_3
            try clear hcz12_4
            try clear hcz19_0
            try clear hcz19_1
            try clear hfz12_0
            try clear hfz12_1
            try clear hfz12_2
            try clear hfz12_3
            try clear hfz12_4
            try clear hfz19_0
            try clear hfz19_1
            try clear hx221_0
            try clear hx221_1
            try clear hx221_2
            try clear hx221_3
            try clear hx221_4
            try clear p221
            try clear q221
            obtain ⟨x7_1, x46_1, rfl, rfl, HA, HK1, HO_5, BK222, BK231, HB⟩ := hrel
            cases gk with
            | zero => exact absurd HA.out (by simp [glebelaw10_DnslForms.l0])
            | succ k1 =>
              have H := HA.out
              clear HA
              simp only [glebelaw10_DnslForms.l0] at H
              by_cases c21 : x46_1 < (t226.length : Int)
              · rw [if_pos c21] at H
                have c21b0 : decide (x46_1 < (t226.length : Int)) = true := decide_eq_true c21
                clear c21
                by_cases c22 : 0 ≤ x46_1
                · rw [if_pos c22] at H
                  have c22b0 : decide (0 ≤ x46_1) = true := decide_eq_true c22
                  clear c22
                  by_cases c23 : x46_1 < (t226.length : Int)
                  · rw [if_pos c23] at H
                    have c23b0 : decide (x46_1 < (t226.length : Int)) = true := decide_eq_true c23
                    clear c23
                    have H' := Aside0.mk H
                    clear H
                    have p232 : 0 ≤ (x46_1 : Int) := of_decide_eq_true (by first | (with_reducible assumption) | assumption)
                    have q232 : x46_1 < (t226.length : Int) := of_decide_eq_true (by first | (with_reducible assumption) | assumption)
                    obtain ⟨ad232, A232_1, c232_1, e232, hx232_0, hx232_1, hx232_2, hl232_1, hi232_1⟩ := at_T47 (Kd.S_reads' HO_5.out).2.2 x46_1 p232 q232
                    cases e232
                    obtain ⟨ce232, hce232, hMe232, hcc232⟩ := Kd.S_get HO_5.out z47 x46_1 p232 (by first | exact q232 | exact of_decide_eq_true (by first | (with_reducible assumption) | assumption) | (have e_ := (Kd.S_reads' HO_5.out).1; omega))
                    obtain ⟨ve232_1, rfl, ge232_1⟩ := k47_openM hMe232
                    have hv232_1 := hcc232 1 _ rfl
                    rw [add_field _ _ 1 (by omega)] at hv232_1
                    replace hv232_1 := Option.some.inj (hv232_1.symm.trans hx232_1)
                    rw [hv232_1] at ge232_1
                    have HL232_1 := Aside0.mk (show Kd.R k33 33 _ _ _ _ ((rd_T47 t226 x46_1).f1) from ge232_1)
                    clear hv232_1 ge232_1
                    clear hcc232 hce232
                    have HR232_1 := Aside0.mk hi232_1
                    have HC232_1 := Aside0.mk hl232_1
                    clear hi232_1 hl232_1
                    replace p232 := eq_true p232
                    replace q232 := eq_true q232
                    go_wp2
                    go_roundg k1
                    case measure => have := HK1.out; omega
                    case rel => exact ⟨(wrap64 (x7_1 + (((rd_T47 t226 x46_1).f1).length : Int))), (wrap64 (x46_1 + 1)), (by first | rfl | (simp; done) | (simp [*]; done)), (by first | rfl | (simp; done) | (simp [*]; done)), H', ⟨by have := HK1.out; omega⟩, ⟨by (with_reducible repeat (first | apply Kd.S_alloc | apply Kd.S_drewN | apply Kd.S_drew)); exact HO_5.out⟩, ⟨by (with_reducible repeat (first | refine blk_drewN ?_ _ | refine blk_drew ?_ | refine blk_alloc ?_ _)); exact BK222.out⟩, ⟨by (with_reducible repeat (first | refine blk_drewN ?_ _ | refine blk_drew ?_ | refine blk_alloc ?_ _)); exact BK231.out⟩, ⟨by repeat (first | (with_reducible first | exact HB.out | apply below_alloc | apply pw_below_drewN | apply below_drew1 | refine below_set ?_ GE222.out | refine below_set ?_ GE231.out) | exact HB.out)⟩⟩
                  · rw [if_neg c23] at H
                    exact absurd H (by simp)
                · rw [if_neg c22] at H
                  exact absurd H (by simp)
              · rw [if_neg c21] at H
                have c21b0 : decide (x46_1 < (t226.length : Int)) = false := decide_eq_false c21
                clear c21
                by_cases c24 : (t226.length : Int) = ((rd_T41 y218 (ji3)).f1)
                · rw [if_pos c24] at H
                  have c24b0 : ((t226.length : Int) == ((rd_T41 y218 (ji3)).f1)) = true := beq_iff_eq.mpr c24
                  have c24b1 : ((t226.length : Int) != ((rd_T41 y218 (ji3)).f1)) = false := bne_eq_false_iff_eq.mpr c24
                  clear c24
                  by_cases c25 : x7_1 = ((rd_T41 y218 (ji3)).f2)
                  · rw [if_pos c25] at H
                    have c25b0 : (x7_1 == ((rd_T41 y218 (ji3)).f2)) = true := beq_iff_eq.mpr c25
                    have c25b1 : (x7_1 != ((rd_T41 y218 (ji3)).f2)) = false := bne_eq_false_iff_eq.mpr c25
                    clear c25
                    by_cases c26 : (t229 == ((rd_T41 y218 (ji3)).f3) && (t230 == ((rd_T41 y218 (ji3)).f4))) = true
                    · rw [if_pos c26] at H
                      have c26b0 : (t229 == ((rd_T41 y218 (ji3)).f3) && (t230 == ((rd_T41 y218 (ji3)).f4))) = true := c26
                      (try (have c26b1 : decide (t229 = ((rd_T41 y218 (ji3)).f3) && (t230 == ((rd_T41 y218 (ji3)).f4))) = true := by simpa using c26))
                      (try (have c26b2 : (t229 == ((rd_T41 y218 (ji3)).f3) && (t230 == ((rd_T41 y218 (ji3)).f4))) = true := by simpa using c26))
                      clear c26
                      replace H := Option.bind_eq_some_iff.mp H
                      obtain ⟨t233, A270, H⟩ := H
                      replace H : (some t233) = some r := H
                      have A27 := Aside0.mk A270
                      clear A270
                      obtain rfl := Option.some.inj H
                      have hnb28 := NB222_231.out
                      have hnc28 := NB231_222.out
                      have hcz29_0 : wr.cell? ⟨gb222, 0, none⟩ = some (.string ((rd_T41 y218 (ji3)).f0)) := (blk_cell BK222.out 0).trans rfl
                      have hcz29_1 : wr.cell? ⟨gb222, 1, none⟩ = some (.int .i64 ((rd_T41 y218 (ji3)).f1)) := (blk_cell BK222.out 1).trans rfl
                      have hcz29_2 : wr.cell? ⟨gb222, 2, none⟩ = some (.int .i64 ((rd_T41 y218 (ji3)).f2)) := (blk_cell BK222.out 2).trans rfl
                      have hcz29_3 : wr.cell? ⟨gb222, 3, none⟩ = some (.int .i64 ((rd_T41 y218 (ji3)).f3)) := (blk_cell BK222.out 3).trans rfl
                      have hcz29_4 : wr.cell? ⟨gb222, 4, none⟩ = some (.int .i64 ((rd_T41 y218 (ji3)).f4)) := (blk_cell BK222.out 4).trans rfl
                      have hfz29_0 := blk_frozen BK222.out 0
                      have hfz29_1 := blk_frozen BK222.out 1
                      have hfz29_2 := blk_frozen BK222.out 2
                      have hfz29_3 := blk_frozen BK222.out 3
                      have hfz29_4 := blk_frozen BK222.out 4
                      have hcz30_0 : wr.cell? ⟨gb231, 0, none⟩ = some (.int .i64 t229) := (blk_cell BK231.out 0).trans rfl
                      have hcz30_1 : wr.cell? ⟨gb231, 1, none⟩ = some (.int .i64 t230) := (blk_cell BK231.out 1).trans rfl
                      have hfz30_0 := blk_frozen BK231.out 0
                      have hfz30_1 := blk_frozen BK231.out 1
                      go_wp2_with (first | (go_at_call 22; (with_reducible refine (glebelaw10_awake.calls k1  t233 _ A27.out).mono ?_); rintro e w31 ⟨rfl, hb⟩; have n0_ := Aside0.mk (Kd.S_below (by (with_reducible repeat (first | apply Kd.S_alloc | apply Kd.S_drewN | apply Kd.S_drew)); exact HO_5.out) hb); have n1_ := Aside0.mk (blk_below (g := gb222) (o := .cells #[.string ((rd_T41 y218 (ji3)).f0), .int .i64 ((rd_T41 y218 (ji3)).f1), .int .i64 ((rd_T41 y218 (ji3)).f2), .int .i64 ((rd_T41 y218 (ji3)).f3), .int .i64 ((rd_T41 y218 (ji3)).f4)] 41 (0, 0)) (by (with_reducible repeat (first | refine blk_drewN ?_ _ | refine blk_drew ?_ | refine blk_alloc ?_ _)); exact BK222.out) hb); have n2_ := Aside0.mk (blk_below (g := gb231) (o := .cells #[.int .i64 t229, .int .i64 t230] 26 (0, 0)) (by (with_reducible repeat (first | refine blk_drewN ?_ _ | refine blk_drew ?_ | refine blk_alloc ?_ _)); exact BK231.out) hb); have n3_ := Aside0.mk (below_step (by repeat (first | (with_reducible first | exact HB.out | apply below_alloc | apply pw_below_drewN | apply below_drew1 | refine below_set ?_ GE222.out | refine below_set ?_ GE231.out) | exact HB.out)) hb); clear HO_5; clear BK222; clear BK231; clear HB; have HO_5 := n0_; have BK222 := n1_; have BK231 := n2_; have HB := n3_; clear n0_ n1_ n2_ n3_; (try clear hb); (try clear hb2); (try clear hk); (try clear hi)))
                      go_ret
                      exact ⟨by first | rfl | (simp [errW_none, errW_some] <;> rfl) | (simp only [← hji3]; first | rfl | (simp [errW_none, errW_some] <;> rfl)) | (simp [*, errW_none, errW_some] <;> rfl), by repeat (first | (with_reducible first | exact HB.out | apply below_alloc | apply pw_below_drewN | apply below_drew1 | refine below_set ?_ GE222.out | refine below_set ?_ GE231.out) | exact HB.out)⟩
                    · rw [if_neg c26] at H
                      exact absurd H (by simp)
                  · rw [if_neg c25] at H
                    exact absurd H (by simp)
                · rw [if_neg c24] at H
                  exact absurd H (by simp)
        · rw [if_neg c6] at H
          exact absurd H (by simp)
      · rw [if_neg c5] at H
        exact absurd H (by simp)
    · rw [if_neg c4] at H
      exact absurd H (by simp)

/-- THE ONE PURE STATEMENT of glebelaw10_DnslForms: yours. -/
def glebelaw10_DnslForms.Pure : Prop := ∀ (a0 : Int), (Lit.int .i64 a0).wf = true → ∃ k, glebelaw10_DnslForms.f k a0 = some true
theorem glebelaw10_DnslForms.walk (P : glebelaw10_DnslForms.Pure) (a0 : Int) (w : World) (w0 : (Lit.int .i64 a0).wf = true) :
    Calls Try.prog 7 #[.int .i64 a0] w fun e w' => e = .returned (.bool true) ∧ Below w.heap.size w w' := by
  obtain ⟨k, h⟩ := P a0 w0
  refine (glebelaw10_DnslForms.calls k a0 true w h).mono ?_
  rintro e w' ⟨rfl, hd⟩
  exact ⟨rfl, hd⟩

end Go.Proofs.Ytnkcffmklomfhaa.D
