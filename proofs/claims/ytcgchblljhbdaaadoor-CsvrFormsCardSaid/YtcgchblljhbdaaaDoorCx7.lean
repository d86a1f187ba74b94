-- Printed by this session's own program (wip/xprint) out of the translation. Lean checks it.
import Derived.Test.YtcgchblljhbdaaaDoorCx0
import Derived.Test.YtcgchblljhbdaaaDoorCx1
import Derived.Test.YtcgchblljhbdaaaDoorCx5
import Derived.Test.YtcgchblljhbdaaaDoorCx6
namespace Go.Proofs.YtcgchblljhbdaaaDoor.C
open Go.Proofs.YtcgchblljhbdaaaDoor
open Go.RowKit Go.Proofs.YtcgchblljhbdaaaDoorW.PrintWords Go.Proofs.YtcgchblljhbdaaaDoorW.PrintLast Go.Proofs.YtcgchblljhbdaaaDoorW.PrintMore
attribute [local go_sem] max2_int min2_int max_two min_two max_three min_three max_four min_four   -- for this text's walks alone
set_option linter.unusedVariables false
set_option linter.unusedSimpArgs false

attribute [local go_sem high] eqA54
/-! ### glebelaw9_CsvrForms: function 10 -/
def glebelaw9_CsvrForms.l0 : Nat → List (List (S59)) → Int → Int → Int → ByteArray → Int → Int → Int → Int → Int → Int → Option (Bool)
  | 0, _, _, _, _, _, _, _, _, _, _, _ => none
  | k + 1, x5, x7, x46, x47, x258000, x258001, x258002, x258003, x258004, x267000, x267001 => if x47 < x46 then (if 0 ≤ x47 then (if x47 < (x5.length : Int) then (glebelaw9_CsvrForms.l0 k x5 (wrap64 (x7 + ((rd_L4 x5 x47).length : Int))) x46 (wrap64 (x47 + 1)) x258000 x258001 x258002 x258003 x258004 x267000 x267001) else (none)) else (none)) else (if (x5.length : Int) = x258001 then (if x7 = x258002 then (if (x267000 == x258003 && (x267001 == x258004)) = true then ((glebelaw9_awake.f k).bind fun t268 => (some t268)) else (none)) else (none)) else (none))
def glebelaw9_CsvrForms.f (k : Nat) (a0 : Int) : Option (Bool) := (some (([(⟨(⟨#[]⟩ : ByteArray), 0, 0, 0, 0⟩ : S50), (⟨(⟨#[97]⟩ : ByteArray), 1, 1, 0, 0⟩ : S50), (⟨(⟨#[97, 10]⟩ : ByteArray), 1, 1, 0, 0⟩ : S50), (⟨(⟨#[10]⟩ : ByteArray), 1, 1, 0, 0⟩ : S50), (⟨(⟨#[10, 10]⟩ : ByteArray), 2, 2, 0, 0⟩ : S50), (⟨(⟨#[44]⟩ : ByteArray), 1, 2, 0, 0⟩ : S50), (⟨(⟨#[97, 44, 98, 13, 10, 99]⟩ : ByteArray), 2, 3, 0, 0⟩ : S50), (⟨(⟨#[34, 34]⟩ : ByteArray), 1, 1, 0, 0⟩ : S50), (⟨(⟨#[34, 97, 10, 98, 34, 44, 99]⟩ : ByteArray), 1, 2, 0, 0⟩ : S50), (⟨(⟨#[34, 97, 34, 34, 98, 34]⟩ : ByteArray), 1, 1, 0, 0⟩ : S50), (⟨(⟨#[97, 34]⟩ : ByteArray), 0, 0, 1, 1⟩ : S50), (⟨(⟨#[34, 97]⟩ : ByteArray), 0, 0, 1, 2⟩ : S50), (⟨(⟨#[34, 97, 34, 98]⟩ : ByteArray), 0, 0, 1, 3⟩ : S50), (⟨(⟨#[97, 13, 98]⟩ : ByteArray), 0, 0, 1, 2⟩ : S50), (⟨(⟨#[97, 13]⟩ : ByteArray), 0, 0, 1, 2⟩ : S50), (⟨(⟨#[195, 169]⟩ : ByteArray), 0, 0, 1, 0⟩ : S50), (⟨(⟨#[97, 44, 1]⟩ : ByteArray), 0, 0, 1, 2⟩ : S50), (⟨(⟨#[34, 1, 34]⟩ : ByteArray), 0, 0, 1, 1⟩ : S50), (⟨(⟨#[97, 10, 34]⟩ : ByteArray), 0, 0, 1, 3⟩ : S50), (⟨(⟨#[97, 44, 32, 98, 32, 44, 99]⟩ : ByteArray), 1, 3, 0, 0⟩ : S50)] : List (S50)) : List (S50))).bind fun y253 => (if (y253.length : Int) = 0 then (none) else (if 0 ≤ (Int.tmod (Go.bits .and .i64 a0 255) (y253.length : Int)) then (if (Int.tmod (Go.bits .and .i64 a0 255) (y253.length : Int)) < (y253.length : Int) then (if ((rd_T50 y253 (Int.tmod (Go.bits .and .i64 a0 255) (y253.length : Int))).f0).size ≤ 9223372036854775807 then ((csvr_Parse.f k (bytesOf ((rd_T50 y253 (Int.tmod (Go.bits .and .i64 a0 255) (y253.length : Int))).f0))).bind fun bt261 => (glebelaw9_CsvrForms.l0 k bt261.1 0 (bt261.1.length : Int) 0 ((rd_T50 y253 (Int.tmod (Go.bits .and .i64 a0 255) (y253.length : Int))).f0) ((rd_T50 y253 (Int.tmod (Go.bits .and .i64 a0 255) (y253.length : Int))).f1) ((rd_T50 y253 (Int.tmod (Go.bits .and .i64 a0 255) (y253.length : Int))).f2) ((rd_T50 y253 (Int.tmod (Go.bits .and .i64 a0 255) (y253.length : Int))).f3) ((rd_T50 y253 (Int.tmod (Go.bits .and .i64 a0 255) (y253.length : Int))).f4) bt261.2.1 bt261.2.2)) else (none)) else (none)) else (none)))
theorem glebelaw9_CsvrForms.mono_l : ∀ k, (∀ y0 y1 y2 y3 y4 y5 y6 y7 y8 y9 y10, LeO (glebelaw9_CsvrForms.l0 k y0 y1 y2 y3 y4 y5 y6 y7 y8 y9 y10) (glebelaw9_CsvrForms.l0 (k + 1) y0 y1 y2 y3 y4 y5 y6 y7 y8 y9 y10))
  | 0 => fun _ _ _ _ _ _ _ _ _ _ _ r h => by simp [glebelaw9_CsvrForms.l0] at h
  | k + 1 => by
    have ih0 := glebelaw9_CsvrForms.mono_l k
    · intro y0 y1 y2 y3 y4 y5 y6 y7 y8 y9 y10
      unfold glebelaw9_CsvrForms.l0
      repeat' first
      | (with_reducible exact ih0 _ _ _ _ _ _ _ _ _ _ _)
      | (with_reducible exact csvr_Parse.mono _ _)
      | (with_reducible exact glebelaw9_awake.mono _)
      | (with_reducible exact LeO.refl _)
      | (with_reducible exact LeO.none _)
      | (with_reducible refine LeO.ite ?_ ?_)
      | (with_reducible refine LeO.bind ?_ (fun _ => ?_))
      | exact ih0 _ _ _ _ _ _ _ _ _ _ _
      | exact csvr_Parse.mono _ _
      | exact glebelaw9_awake.mono _
      | exact LeO.none _
      | refine LeO.ite ?_ ?_
      | refine LeO.bind ?_ (fun _ => ?_)
theorem glebelaw9_CsvrForms.mono : ∀ a0 k, LeO (glebelaw9_CsvrForms.f k a0) (glebelaw9_CsvrForms.f (k + 1) a0) := by
  intro a0 k
  have ih0 := glebelaw9_CsvrForms.mono_l k
  unfold glebelaw9_CsvrForms.f
  repeat' first
      | (with_reducible exact ih0 _ _ _ _ _ _ _ _ _ _ _)
      | (with_reducible exact csvr_Parse.mono _ _)
      | (with_reducible exact glebelaw9_awake.mono _)
      | (with_reducible exact LeO.refl _)
      | (with_reducible exact LeO.none _)
      | (with_reducible refine LeO.ite ?_ ?_)
      | (with_reducible refine LeO.bind ?_ (fun _ => ?_))
      | exact ih0 _ _ _ _ _ _ _ _ _ _ _
      | exact csvr_Parse.mono _ _
      | exact glebelaw9_awake.mono _
      | exact LeO.none _
      | refine LeO.ite ?_ ?_
      | refine LeO.bind ?_ (fun _ => ?_)
set_option maxHeartbeats 8000000 in
set_option maxRecDepth 100000 in
theorem glebelaw9_CsvrForms.calls (k : Nat) (a0 : Int) (r : Bool) (w : World) (hMax : XM.Tabs w) (h : glebelaw9_CsvrForms.f k a0 = some r) :
    Calls Tryd.prog 10 #[.int .i64 a0] w fun e w' => e = .returned (.bool r) ∧ Below w.heap.size w w' := by
  have hu50 := Tryd.underlying50
  have hu54 := Tryd.underlying54
  have HB := Aside0.mk (Below.refl w.heap.size w)
  have H : ((some (([(⟨(⟨#[]⟩ : ByteArray), 0, 0, 0, 0⟩ : S50), (⟨(⟨#[97]⟩ : ByteArray), 1, 1, 0, 0⟩ : S50), (⟨(⟨#[97, 10]⟩ : ByteArray), 1, 1, 0, 0⟩ : S50), (⟨(⟨#[10]⟩ : ByteArray), 1, 1, 0, 0⟩ : S50), (⟨(⟨#[10, 10]⟩ : ByteArray), 2, 2, 0, 0⟩ : S50), (⟨(⟨#[44]⟩ : ByteArray), 1, 2, 0, 0⟩ : S50), (⟨(⟨#[97, 44, 98, 13, 10, 99]⟩ : ByteArray), 2, 3, 0, 0⟩ : S50), (⟨(⟨#[34, 34]⟩ : ByteArray), 1, 1, 0, 0⟩ : S50), (⟨(⟨#[34, 97, 10, 98, 34, 44, 99]⟩ : ByteArray), 1, 2, 0, 0⟩ : S50), (⟨(⟨#[34, 97, 34, 34, 98, 34]⟩ : ByteArray), 1, 1, 0, 0⟩ : S50), (⟨(⟨#[97, 34]⟩ : ByteArray), 0, 0, 1, 1⟩ : S50), (⟨(⟨#[34, 97]⟩ : ByteArray), 0, 0, 1, 2⟩ : S50), (⟨(⟨#[34, 97, 34, 98]⟩ : ByteArray), 0, 0, 1, 3⟩ : S50), (⟨(⟨#[97, 13, 98]⟩ : ByteArray), 0, 0, 1, 2⟩ : S50), (⟨(⟨#[97, 13]⟩ : ByteArray), 0, 0, 1, 2⟩ : S50), (⟨(⟨#[195, 169]⟩ : ByteArray), 0, 0, 1, 0⟩ : S50), (⟨(⟨#[97, 44, 1]⟩ : ByteArray), 0, 0, 1, 2⟩ : S50), (⟨(⟨#[34, 1, 34]⟩ : ByteArray), 0, 0, 1, 1⟩ : S50), (⟨(⟨#[97, 10, 34]⟩ : ByteArray), 0, 0, 1, 3⟩ : S50), (⟨(⟨#[97, 44, 32, 98, 32, 44, 99]⟩ : ByteArray), 1, 3, 0, 0⟩ : S50)] : List (S50)) : List (S50))).bind fun y253 => (if (y253.length : Int) = 0 then (none) else (if 0 ≤ (Int.tmod (Go.bits .and .i64 a0 255) (y253.length : Int)) then (if (Int.tmod (Go.bits .and .i64 a0 255) (y253.length : Int)) < (y253.length : Int) then (if ((rd_T50 y253 (Int.tmod (Go.bits .and .i64 a0 255) (y253.length : Int))).f0).size ≤ 9223372036854775807 then ((csvr_Parse.f k (bytesOf ((rd_T50 y253 (Int.tmod (Go.bits .and .i64 a0 255) (y253.length : Int))).f0))).bind fun bt261 => (glebelaw9_CsvrForms.l0 k bt261.1 0 (bt261.1.length : Int) 0 ((rd_T50 y253 (Int.tmod (Go.bits .and .i64 a0 255) (y253.length : Int))).f0) ((rd_T50 y253 (Int.tmod (Go.bits .and .i64 a0 255) (y253.length : Int))).f1) ((rd_T50 y253 (Int.tmod (Go.bits .and .i64 a0 255) (y253.length : Int))).f2) ((rd_T50 y253 (Int.tmod (Go.bits .and .i64 a0 255) (y253.length : Int))).f3) ((rd_T50 y253 (Int.tmod (Go.bits .and .i64 a0 255) (y253.length : Int))).f4) bt261.2.1 bt261.2.2)) else (none)) else (none)) else (none)))) = some r := h
  clear h
  obtain ⟨y253, hy253⟩ : ∃ y_ : List (S50), y_ = (([(⟨(⟨#[]⟩ : ByteArray), 0, 0, 0, 0⟩ : S50), (⟨(⟨#[97]⟩ : ByteArray), 1, 1, 0, 0⟩ : S50), (⟨(⟨#[97, 10]⟩ : ByteArray), 1, 1, 0, 0⟩ : S50), (⟨(⟨#[10]⟩ : ByteArray), 1, 1, 0, 0⟩ : S50), (⟨(⟨#[10, 10]⟩ : ByteArray), 2, 2, 0, 0⟩ : S50), (⟨(⟨#[44]⟩ : ByteArray), 1, 2, 0, 0⟩ : S50), (⟨(⟨#[97, 44, 98, 13, 10, 99]⟩ : ByteArray), 2, 3, 0, 0⟩ : S50), (⟨(⟨#[34, 34]⟩ : ByteArray), 1, 1, 0, 0⟩ : S50), (⟨(⟨#[34, 97, 10, 98, 34, 44, 99]⟩ : ByteArray), 1, 2, 0, 0⟩ : S50), (⟨(⟨#[34, 97, 34, 34, 98, 34]⟩ : ByteArray), 1, 1, 0, 0⟩ : S50), (⟨(⟨#[97, 34]⟩ : ByteArray), 0, 0, 1, 1⟩ : S50), (⟨(⟨#[34, 97]⟩ : ByteArray), 0, 0, 1, 2⟩ : S50), (⟨(⟨#[34, 97, 34, 98]⟩ : ByteArray), 0, 0, 1, 3⟩ : S50), (⟨(⟨#[97, 13, 98]⟩ : ByteArray), 0, 0, 1, 2⟩ : S50), (⟨(⟨#[97, 13]⟩ : ByteArray), 0, 0, 1, 2⟩ : S50), (⟨(⟨#[195, 169]⟩ : ByteArray), 0, 0, 1, 0⟩ : S50), (⟨(⟨#[97, 44, 1]⟩ : ByteArray), 0, 0, 1, 2⟩ : S50), (⟨(⟨#[34, 1, 34]⟩ : ByteArray), 0, 0, 1, 1⟩ : S50), (⟨(⟨#[97, 10, 34]⟩ : ByteArray), 0, 0, 1, 3⟩ : S50), (⟨(⟨#[97, 44, 32, 98, 32, 44, 99]⟩ : ByteArray), 1, 3, 0, 0⟩ : S50)] : List (S50))) := ⟨_, rfl⟩
  replace H : (if (y253.length : Int) = 0 then (none) else (if 0 ≤ (Int.tmod (Go.bits .and .i64 a0 255) (y253.length : Int)) then (if (Int.tmod (Go.bits .and .i64 a0 255) (y253.length : Int)) < (y253.length : Int) then (if ((rd_T50 y253 (Int.tmod (Go.bits .and .i64 a0 255) (y253.length : Int))).f0).size ≤ 9223372036854775807 then ((csvr_Parse.f k (bytesOf ((rd_T50 y253 (Int.tmod (Go.bits .and .i64 a0 255) (y253.length : Int))).f0))).bind fun bt261 => (glebelaw9_CsvrForms.l0 k bt261.1 0 (bt261.1.length : Int) 0 ((rd_T50 y253 (Int.tmod (Go.bits .and .i64 a0 255) (y253.length : Int))).f0) ((rd_T50 y253 (Int.tmod (Go.bits .and .i64 a0 255) (y253.length : Int))).f1) ((rd_T50 y253 (Int.tmod (Go.bits .and .i64 a0 255) (y253.length : Int))).f2) ((rd_T50 y253 (Int.tmod (Go.bits .and .i64 a0 255) (y253.length : Int))).f3) ((rd_T50 y253 (Int.tmod (Go.bits .and .i64 a0 255) (y253.length : Int))).f4) bt261.2.1 bt261.2.2)) else (none)) else (none)) else (none))) = some r := by first | (rw [hy253]; with_reducible exact H) | (have H2_ := (Option.bind_some _ _).symm.trans H; rw [hy253]; with_reducible exact H2_) | (have H2_ := (Option.bind_some _ _).symm.trans H; with_reducible exact H2_) | with_reducible exact H | (rw [hy253]; exact H) | exact H
  have Ny253 := Aside0.mk hy253
  clear hy253
  by_cases c2 : (y253.length : Int) = 0
  · rw [if_pos c2] at H
    exact absurd H (by simp)
  · rw [if_neg c2] at H
    have c2b0 : ((y253.length : Int) == 0) = false := beq_eq_false_iff_ne.mpr c2
    have c2b1 : ((y253.length : Int) != 0) = true := bne_iff_ne.mpr c2
    have c2b2 : ¬ (y253 = []) := fun h_ => c2 (by rw [h_]; rfl)
    obtain ⟨ji3, hji3⟩ : ∃ j_ : Int, (Int.tmod (Go.bits .and .i64 a0 255) (y253.length : Int)) = j_ := ⟨_, rfl⟩
    replace H : (if 0 ≤ (ji3) then (if (ji3) < (y253.length : Int) then (if ((rd_T50 y253 (ji3)).f0).size ≤ 9223372036854775807 then ((csvr_Parse.f k (bytesOf ((rd_T50 y253 (ji3)).f0))).bind fun bt261 => (glebelaw9_CsvrForms.l0 k bt261.1 0 (bt261.1.length : Int) 0 ((rd_T50 y253 (ji3)).f0) ((rd_T50 y253 (ji3)).f1) ((rd_T50 y253 (ji3)).f2) ((rd_T50 y253 (ji3)).f3) ((rd_T50 y253 (ji3)).f4) bt261.2.1 bt261.2.2)) else (none)) else (none)) else (none)) = some r := by first | (rw [hji3] at H; exact H) | (simp only [hji3] at H ⊢; exact H)
    by_cases c4 : 0 ≤ (ji3)
    · rw [if_pos c4] at H
      have c4b0 : decide (0 ≤ (ji3)) = true := decide_eq_true c4
      clear c4
      by_cases c5 : (ji3) < (y253.length : Int)
      · rw [if_pos c5] at H
        have c5b0 : decide ((ji3) < (y253.length : Int)) = true := decide_eq_true c5
        clear c5
        by_cases c6 : ((rd_T50 y253 (ji3)).f0).size ≤ 9223372036854775807
        · rw [if_pos c6] at H
          have c6b0 := eq_true c6
          have c6b1 : decide (((rd_T50 y253 (ji3)).f0).size ≤ 9223372036854775807) = true := decide_eq_true c6
          try have c6b2 : (9223372036854775807 < ((rd_T50 y253 (ji3)).f0).size) = False := eq_false (Nat.not_lt.2 c6)
          clear c6
          obtain ⟨y258, hy258⟩ : ∃ y_ : List Int, y_ = (bytesOf ((rd_T50 y253 (ji3)).f0)) := ⟨_, rfl⟩
          replace H : ((csvr_Parse.f k y258).bind fun bt261 => (glebelaw9_CsvrForms.l0 k bt261.1 0 (bt261.1.length : Int) 0 ((rd_T50 y253 (ji3)).f0) ((rd_T50 y253 (ji3)).f1) ((rd_T50 y253 (ji3)).f2) ((rd_T50 y253 (ji3)).f3) ((rd_T50 y253 (ji3)).f4) bt261.2.1 bt261.2.2)) = some r := by first | (rw [hy258]; with_reducible exact H) | (have H2_ := (Option.bind_some _ _).symm.trans H; rw [hy258]; with_reducible exact H2_) | (have H2_ := (Option.bind_some _ _).symm.trans H; with_reducible exact H2_) | with_reducible exact H | (rw [hy258]; exact H) | exact H
          have Ny258 := Aside0.mk hy258
          clear hy258
          replace H := Option.bind_eq_some_iff.mp H
          obtain ⟨⟨t261, t264, t265⟩, A70, H⟩ := H
          replace H : (glebelaw9_CsvrForms.l0 k t261 0 (t261.length : Int) 0 ((rd_T50 y253 (ji3)).f0) ((rd_T50 y253 (ji3)).f1) ((rd_T50 y253 (ji3)).f2) ((rd_T50 y253 (ji3)).f3) ((rd_T50 y253 (ji3)).f4) t264 t265) = some r := H
          have A7 := Aside0.mk A70
          clear A70
          have H' := Aside0.mk H
          clear H
          go_enter Tryd.func10, Tryd.ntmps10
          go_wp2_with (first | ((with_reducible refine gate_dst (N := 29) rfl ?_); refine Kd.R_lit k50 _ 50 ?hg (N := 29) ?hd (xs := ([(⟨(⟨#[]⟩ : ByteArray), 0, 0, 0, 0⟩ : S50), (⟨(⟨#[97]⟩ : ByteArray), 1, 1, 0, 0⟩ : S50), (⟨(⟨#[97, 10]⟩ : ByteArray), 1, 1, 0, 0⟩ : S50), (⟨(⟨#[10]⟩ : ByteArray), 1, 1, 0, 0⟩ : S50), (⟨(⟨#[10, 10]⟩ : ByteArray), 2, 2, 0, 0⟩ : S50), (⟨(⟨#[44]⟩ : ByteArray), 1, 2, 0, 0⟩ : S50), (⟨(⟨#[97, 44, 98, 13, 10, 99]⟩ : ByteArray), 2, 3, 0, 0⟩ : S50), (⟨(⟨#[34, 34]⟩ : ByteArray), 1, 1, 0, 0⟩ : S50), (⟨(⟨#[34, 97, 10, 98, 34, 44, 99]⟩ : ByteArray), 1, 2, 0, 0⟩ : S50), (⟨(⟨#[34, 97, 34, 34, 98, 34]⟩ : ByteArray), 1, 1, 0, 0⟩ : S50), (⟨(⟨#[97, 34]⟩ : ByteArray), 0, 0, 1, 1⟩ : S50), (⟨(⟨#[34, 97]⟩ : ByteArray), 0, 0, 1, 2⟩ : S50), (⟨(⟨#[34, 97, 34, 98]⟩ : ByteArray), 0, 0, 1, 3⟩ : S50), (⟨(⟨#[97, 13, 98]⟩ : ByteArray), 0, 0, 1, 2⟩ : S50), (⟨(⟨#[97, 13]⟩ : ByteArray), 0, 0, 1, 2⟩ : S50), (⟨(⟨#[195, 169]⟩ : ByteArray), 0, 0, 1, 0⟩ : S50), (⟨(⟨#[97, 44, 1]⟩ : ByteArray), 0, 0, 1, 2⟩ : S50), (⟨(⟨#[34, 1, 34]⟩ : ByteArray), 0, 0, 1, 1⟩ : S50), (⟨(⟨#[97, 10, 34]⟩ : ByteArray), 0, 0, 1, 3⟩ : S50), (⟨(⟨#[97, 44, 32, 98, 32, 44, 99]⟩ : ByteArray), 1, 3, 0, 0⟩ : S50)] : List (S50))) (inner := [.string (⟨#[]⟩ : ByteArray), .int .i64 0, .int .i64 0, .int .i64 0, .int .i64 0, .string (⟨#[97]⟩ : ByteArray), .int .i64 1, .int .i64 1, .int .i64 0, .int .i64 0, .string (⟨#[97, 10]⟩ : ByteArray), .int .i64 1, .int .i64 1, .int .i64 0, .int .i64 0, .string (⟨#[10]⟩ : ByteArray), .int .i64 1, .int .i64 1, .int .i64 0, .int .i64 0, .string (⟨#[10, 10]⟩ : ByteArray), .int .i64 2, .int .i64 2, .int .i64 0, .int .i64 0, .string (⟨#[44]⟩ : ByteArray), .int .i64 1, .int .i64 2, .int .i64 0, .int .i64 0, .string (⟨#[97, 44, 98, 13, 10, 99]⟩ : ByteArray), .int .i64 2, .int .i64 3, .int .i64 0, .int .i64 0, .string (⟨#[34, 34]⟩ : ByteArray), .int .i64 1, .int .i64 1, .int .i64 0, .int .i64 0, .string (⟨#[34, 97, 10, 98, 34, 44, 99]⟩ : ByteArray), .int .i64 1, .int .i64 2, .int .i64 0, .int .i64 0, .string (⟨#[34, 97, 34, 34, 98, 34]⟩ : ByteArray), .int .i64 1, .int .i64 1, .int .i64 0, .int .i64 0, .string (⟨#[97, 34]⟩ : ByteArray), .int .i64 0, .int .i64 0, .int .i64 1, .int .i64 1, .string (⟨#[34, 97]⟩ : ByteArray), .int .i64 0, .int .i64 0, .int .i64 1, .int .i64 2, .string (⟨#[34, 97, 34, 98]⟩ : ByteArray), .int .i64 0, .int .i64 0, .int .i64 1, .int .i64 3, .string (⟨#[97, 13, 98]⟩ : ByteArray), .int .i64 0, .int .i64 0, .int .i64 1, .int .i64 2, .string (⟨#[97, 13]⟩ : ByteArray), .int .i64 0, .int .i64 0, .int .i64 1, .int .i64 2, .string (⟨#[195, 169]⟩ : ByteArray), .int .i64 0, .int .i64 0, .int .i64 1, .int .i64 0, .string (⟨#[97, 44, 1]⟩ : ByteArray), .int .i64 0, .int .i64 0, .int .i64 1, .int .i64 2, .string (⟨#[34, 1, 34]⟩ : ByteArray), .int .i64 0, .int .i64 0, .int .i64 1, .int .i64 1, .string (⟨#[97, 10, 34]⟩ : ByteArray), .int .i64 0, .int .i64 0, .int .i64 1, .int .i64 3, .string (⟨#[97, 44, 32, 98, 32, 44, 99]⟩ : ByteArray), .int .i64 1, .int .i64 3, .int .i64 0, .int .i64 0]) (ok := fun _ => True) (okp := fun _ => True) ?hr ?hp (fun _ hk => hk) trivial (Below.refl _ _) (Nat.le_refl _) (by simp) ?_; (case hd => rfl); (case hg => rfl); (case hr => first | (go_simp; done) | (go_simp; rfl)); (case hp => exact (Reps.c5 (show Kd.M k50 _ _ _ (⟨(⟨#[]⟩ : ByteArray), 0, 0, 0, 0⟩ : S50) [.string (⟨#[]⟩ : ByteArray), .int .i64 0, .int .i64 0, .int .i64 0, .int .i64 0] from (k50_mkM _ _ _ (⟨(⟨#[]⟩ : ByteArray), 0, 0, 0, 0⟩ : S50) )) (Reps.c5 (show Kd.M k50 _ _ _ (⟨(⟨#[97]⟩ : ByteArray), 1, 1, 0, 0⟩ : S50) [.string (⟨#[97]⟩ : ByteArray), .int .i64 1, .int .i64 1, .int .i64 0, .int .i64 0] from (k50_mkM _ _ _ (⟨(⟨#[97]⟩ : ByteArray), 1, 1, 0, 0⟩ : S50) )) (Reps.c5 (show Kd.M k50 _ _ _ (⟨(⟨#[97, 10]⟩ : ByteArray), 1, 1, 0, 0⟩ : S50) [.string (⟨#[97, 10]⟩ : ByteArray), .int .i64 1, .int .i64 1, .int .i64 0, .int .i64 0] from (k50_mkM _ _ _ (⟨(⟨#[97, 10]⟩ : ByteArray), 1, 1, 0, 0⟩ : S50) )) (Reps.c5 (show Kd.M k50 _ _ _ (⟨(⟨#[10]⟩ : ByteArray), 1, 1, 0, 0⟩ : S50) [.string (⟨#[10]⟩ : ByteArray), .int .i64 1, .int .i64 1, .int .i64 0, .int .i64 0] from (k50_mkM _ _ _ (⟨(⟨#[10]⟩ : ByteArray), 1, 1, 0, 0⟩ : S50) )) (Reps.c5 (show Kd.M k50 _ _ _ (⟨(⟨#[10, 10]⟩ : ByteArray), 2, 2, 0, 0⟩ : S50) [.string (⟨#[10, 10]⟩ : ByteArray), .int .i64 2, .int .i64 2, .int .i64 0, .int .i64 0] from (k50_mkM _ _ _ (⟨(⟨#[10, 10]⟩ : ByteArray), 2, 2, 0, 0⟩ : S50) )) (Reps.c5 (show Kd.M k50 _ _ _ (⟨(⟨#[44]⟩ : ByteArray), 1, 2, 0, 0⟩ : S50) [.string (⟨#[44]⟩ : ByteArray), .int .i64 1, .int .i64 2, .int .i64 0, .int .i64 0] from (k50_mkM _ _ _ (⟨(⟨#[44]⟩ : ByteArray), 1, 2, 0, 0⟩ : S50) )) (Reps.c5 (show Kd.M k50 _ _ _ (⟨(⟨#[97, 44, 98, 13, 10, 99]⟩ : ByteArray), 2, 3, 0, 0⟩ : S50) [.string (⟨#[97, 44, 98, 13, 10, 99]⟩ : ByteArray), .int .i64 2, .int .i64 3, .int .i64 0, .int .i64 0] from (k50_mkM _ _ _ (⟨(⟨#[97, 44, 98, 13, 10, 99]⟩ : ByteArray), 2, 3, 0, 0⟩ : S50) )) (Reps.c5 (show Kd.M k50 _ _ _ (⟨(⟨#[34, 34]⟩ : ByteArray), 1, 1, 0, 0⟩ : S50) [.string (⟨#[34, 34]⟩ : ByteArray), .int .i64 1, .int .i64 1, .int .i64 0, .int .i64 0] from (k50_mkM _ _ _ (⟨(⟨#[34, 34]⟩ : ByteArray), 1, 1, 0, 0⟩ : S50) )) (Reps.c5 (show Kd.M k50 _ _ _ (⟨(⟨#[34, 97, 10, 98, 34, 44, 99]⟩ : ByteArray), 1, 2, 0, 0⟩ : S50) [.string (⟨#[34, 97, 10, 98, 34, 44, 99]⟩ : ByteArray), .int .i64 1, .int .i64 2, .int .i64 0, .int .i64 0] from (k50_mkM _ _ _ (⟨(⟨#[34, 97, 10, 98, 34, 44, 99]⟩ : ByteArray), 1, 2, 0, 0⟩ : S50) )) (Reps.c5 (show Kd.M k50 _ _ _ (⟨(⟨#[34, 97, 34, 34, 98, 34]⟩ : ByteArray), 1, 1, 0, 0⟩ : S50) [.string (⟨#[34, 97, 34, 34, 98, 34]⟩ : ByteArray), .int .i64 1, .int .i64 1, .int .i64 0, .int .i64 0] from (k50_mkM _ _ _ (⟨(⟨#[34, 97, 34, 34, 98, 34]⟩ : ByteArray), 1, 1, 0, 0⟩ : S50) )) (Reps.c5 (show Kd.M k50 _ _ _ (⟨(⟨#[97, 34]⟩ : ByteArray), 0, 0, 1, 1⟩ : S50) [.string (⟨#[97, 34]⟩ : ByteArray), .int .i64 0, .int .i64 0, .int .i64 1, .int .i64 1] from (k50_mkM _ _ _ (⟨(⟨#[97, 34]⟩ : ByteArray), 0, 0, 1, 1⟩ : S50) )) (Reps.c5 (show Kd.M k50 _ _ _ (⟨(⟨#[34, 97]⟩ : ByteArray), 0, 0, 1, 2⟩ : S50) [.string (⟨#[34, 97]⟩ : ByteArray), .int .i64 0, .int .i64 0, .int .i64 1, .int .i64 2] from (k50_mkM _ _ _ (⟨(⟨#[34, 97]⟩ : ByteArray), 0, 0, 1, 2⟩ : S50) )) (Reps.c5 (show Kd.M k50 _ _ _ (⟨(⟨#[34, 97, 34, 98]⟩ : ByteArray), 0, 0, 1, 3⟩ : S50) [.string (⟨#[34, 97, 34, 98]⟩ : ByteArray), .int .i64 0, .int .i64 0, .int .i64 1, .int .i64 3] from (k50_mkM _ _ _ (⟨(⟨#[34, 97, 34, 98]⟩ : ByteArray), 0, 0, 1, 3⟩ : S50) )) (Reps.c5 (show Kd.M k50 _ _ _ (⟨(⟨#[97, 13, 98]⟩ : ByteArray), 0, 0, 1, 2⟩ : S50) [.string (⟨#[97, 13, 98]⟩ : ByteArray), .int .i64 0, .int .i64 0, .int .i64 1, .int .i64 2] from (k50_mkM _ _ _ (⟨(⟨#[97, 13, 98]⟩ : ByteArray), 0, 0, 1, 2⟩ : S50) )) (Reps.c5 (show Kd.M k50 _ _ _ (⟨(⟨#[97, 13]⟩ : ByteArray), 0, 0, 1, 2⟩ : S50) [.string (⟨#[97, 13]⟩ : ByteArray), .int .i64 0, .int .i64 0, .int .i64 1, .int .i64 2] from (k50_mkM _ _ _ (⟨(⟨#[97, 13]⟩ : ByteArray), 0, 0, 1, 2⟩ : S50) )) (Reps.c5 (show Kd.M k50 _ _ _ (⟨(⟨#[195, 169]⟩ : ByteArray), 0, 0, 1, 0⟩ : S50) [.string (⟨#[195, 169]⟩ : ByteArray), .int .i64 0, .int .i64 0, .int .i64 1, .int .i64 0] from (k50_mkM _ _ _ (⟨(⟨#[195, 169]⟩ : ByteArray), 0, 0, 1, 0⟩ : S50) )) (Reps.c5 (show Kd.M k50 _ _ _ (⟨(⟨#[97, 44, 1]⟩ : ByteArray), 0, 0, 1, 2⟩ : S50) [.string (⟨#[97, 44, 1]⟩ : ByteArray), .int .i64 0, .int .i64 0, .int .i64 1, .int .i64 2] from (k50_mkM _ _ _ (⟨(⟨#[97, 44, 1]⟩ : ByteArray), 0, 0, 1, 2⟩ : S50) )) (Reps.c5 (show Kd.M k50 _ _ _ (⟨(⟨#[34, 1, 34]⟩ : ByteArray), 0, 0, 1, 1⟩ : S50) [.string (⟨#[34, 1, 34]⟩ : ByteArray), .int .i64 0, .int .i64 0, .int .i64 1, .int .i64 1] from (k50_mkM _ _ _ (⟨(⟨#[34, 1, 34]⟩ : ByteArray), 0, 0, 1, 1⟩ : S50) )) (Reps.c5 (show Kd.M k50 _ _ _ (⟨(⟨#[97, 10, 34]⟩ : ByteArray), 0, 0, 1, 3⟩ : S50) [.string (⟨#[97, 10, 34]⟩ : ByteArray), .int .i64 0, .int .i64 0, .int .i64 1, .int .i64 3] from (k50_mkM _ _ _ (⟨(⟨#[97, 10, 34]⟩ : ByteArray), 0, 0, 1, 3⟩ : S50) )) (Reps.c5 (show Kd.M k50 _ _ _ (⟨(⟨#[97, 44, 32, 98, 32, 44, 99]⟩ : ByteArray), 1, 3, 0, 0⟩ : S50) [.string (⟨#[97, 44, 32, 98, 32, 44, 99]⟩ : ByteArray), .int .i64 1, .int .i64 3, .int .i64 0, .int .i64 0] from (k50_mkM _ _ _ (⟨(⟨#[97, 44, 32, 98, 32, 44, 99]⟩ : ByteArray), 1, 3, 0, 0⟩ : S50) )) (Reps.none _ _)))))))))))))))))))))); intro v254 w8 ho9 hb hg_ hnew_; clear hg_ hnew_; (first | rw [← Ny253.out] at ho9 | (simp only [Int.reduceToNat] at ho9; rw [← Ny253.out] at ho9)); have n0_ := Aside0.mk (Kd.R_lower ho9 (below_size (by repeat (first | (with_reducible first | exact HB.out | apply below_alloc | apply pw_below_drewN | apply below_drew1) | exact HB.out)))); have n1_ := Aside0.mk (below_step (by repeat (first | (with_reducible first | exact HB.out | apply below_alloc | apply pw_below_drewN | apply below_drew1) | exact HB.out)) hb); clear HB; have HO255 := n0_; have HB := n1_; clear n0_ n1_; clear hb ho9; obtain ⟨Ao10, co10, eo10⟩ := Kd.R_slice HO255.out; subst eo10; have p256 : 0 ≤ ((ji3) : Int) := of_decide_eq_true (by first | (with_reducible assumption) | assumption); have q256 : (ji3) < (y253.length : Int) := of_decide_eq_true (by first | (with_reducible assumption) | assumption); obtain ⟨ad256, e256, hx256_0, hx256_1, hx256_2, hx256_3, hx256_4⟩ := at_T50 (Kd.R_reads' HO255.out).2.2 (ji3) p256 q256; cases e256; replace p256 := eq_true p256; replace q256 := eq_true q256) | ((with_reducible refine gate_dst (N := 4) rfl ?_); refine box_event ?hg (N := 4) ?hd (cs := #[.string (⟨#[]⟩ : ByteArray), .int .i64 0, .int .i64 0, .int .i64 0, .int .i64 0]) (t := 50) ?hr ?_; (case hd => rfl); (case hg => rfl); (case hr => first | (go_simp; done) | (go_simp; rfl)); intro gb257 hg w11 hbox hb; have n0_ := Aside0.mk (Kd.R_below (Kd.R_elderB (by (with_reducible repeat (first | apply Kd.R_alloc | apply Kd.R_drewN | apply Kd.R_drew)); exact HO255.out) gb257 (Nat.le_of_eq hg.symm)) hb); have n1_ := Aside0.mk (below_step (by repeat (first | (with_reducible first | exact HB.out | apply below_alloc | apply pw_below_drewN | apply below_drew1) | exact HB.out)) hb); have n2_ := Aside0.mk (hbox); have n3_ := Aside0.mk ((by rw [hg]; exact (below_size (by repeat (first | (with_reducible first | exact HB.out | apply below_alloc | apply pw_below_drewN | apply below_drew1) | exact HB.out))) : w.heap.size ≤ gb257)); have n4_ := Aside0.mk ((by rw [hg]; exact (below_size (by repeat (first | (with_reducible first | exact HB.out | apply below_alloc | apply pw_below_drewN | apply below_drew1) | exact HB.out))) : w.heap.size ≤ gb257)); clear HO255; clear HB; have HO255 := n0_; have HB := n1_; have BK257 := n2_; have GW257 := n3_; have GE257 := n4_; clear n0_ n1_ n2_ n3_ n4_; clear hb hbox hg; have hcz12_0 : w11.cell? ⟨gb257, 0, none⟩ = some (.string (⟨#[]⟩ : ByteArray)) := (blk_cell BK257.out 0).trans rfl; have hcz12_1 : w11.cell? ⟨gb257, 1, none⟩ = some (.int .i64 0) := (blk_cell BK257.out 1).trans rfl; have hcz12_2 : w11.cell? ⟨gb257, 2, none⟩ = some (.int .i64 0) := (blk_cell BK257.out 2).trans rfl; have hcz12_3 : w11.cell? ⟨gb257, 3, none⟩ = some (.int .i64 0) := (blk_cell BK257.out 3).trans rfl; have hcz12_4 : w11.cell? ⟨gb257, 4, none⟩ = some (.int .i64 0) := (blk_cell BK257.out 4).trans rfl; have hfz12_0 := blk_frozen BK257.out 0; have hfz12_1 := blk_frozen BK257.out 1; have hfz12_2 := blk_frozen BK257.out 2; have hfz12_3 := blk_frozen BK257.out 3; have hfz12_4 := blk_frozen BK257.out 4) | ((with_reducible refine gate_dst (N := 41) rfl ?_); refine XW.V_bytes _ 5 rfl (N := 41) rfl 9 35 _ rfl ((rd_T50 y253 (ji3)).f0) rfl Tryd.underlying9 Tryd.underlying35 Tryd.underlying5 (by have h_ : ((rd_T50 y253 (ji3)).f0).size ≤ 9223372036854775807 := of_decide_eq_true (by first | (with_reducible assumption) | assumption); first | exact h_ | (simp only [ByteArray.size_append]; exact h_)) (ok := (fun k_ => some k_ ≠ (.slice (some ad256) y253.length co10 : Value).ownBlock ∧ k_ ≠ gb257)) (fun k_ hk => ⟨Kd.fresh' (Kd.R_lt (by (with_reducible repeat (first | apply Kd.R_alloc | apply Kd.R_drewN | apply Kd.R_drew)); exact (Kd.R_mono (Kd.R_far (p := ⟨gb257, 4, none⟩) (Kd.R_far (p := ⟨gb257, 3, none⟩) (Kd.R_far (p := ⟨gb257, 2, none⟩) (Kd.R_far (p := ⟨gb257, 1, none⟩) (Kd.R_far (p := ⟨gb257, 0, none⟩) (Kd.R_mono HO255.out (fun k_ hk => (⟨hk, hk.2⟩ : _ ∧ k_ ≠ gb257))) (fun _ hk => hk.2) (.string ((rd_T50 y253 (ji3)).f0))) (fun _ hk => hk.2) (.int .i64 ((rd_T50 y253 (ji3)).f1))) (fun _ hk => hk.2) (.int .i64 ((rd_T50 y253 (ji3)).f2))) (fun _ hk => hk.2) (.int .i64 ((rd_T50 y253 (ji3)).f3))) (fun _ hk => hk.2) (.int .i64 ((rd_T50 y253 (ji3)).f4))) (fun _ h_ => h_.1)))) k_ hk, Kd.freshB (g := gb257) (o := .cells #[.string ((rd_T50 y253 (ji3)).f0), .int .i64 ((rd_T50 y253 (ji3)).f1), .int .i64 ((rd_T50 y253 (ji3)).f2), .int .i64 ((rd_T50 y253 (ji3)).f3), .int .i64 ((rd_T50 y253 (ji3)).f4)] 50 (0, 0)) (by (with_reducible repeat (first | refine blk_drewN ?_ _ | refine blk_drew ?_ | refine blk_alloc ?_ _)); refine blk_put (cs := #[.string ((rd_T50 y253 (ji3)).f0), .int .i64 ((rd_T50 y253 (ji3)).f1), .int .i64 ((rd_T50 y253 (ji3)).f2), .int .i64 ((rd_T50 y253 (ji3)).f3), .int .i64 0]) ?_ 4 _ rfl; (with_reducible repeat (first | refine blk_drewN ?_ _ | refine blk_drew ?_ | refine blk_alloc ?_ _)); refine blk_put (cs := #[.string ((rd_T50 y253 (ji3)).f0), .int .i64 ((rd_T50 y253 (ji3)).f1), .int .i64 ((rd_T50 y253 (ji3)).f2), .int .i64 0, .int .i64 0]) ?_ 3 _ rfl; (with_reducible repeat (first | refine blk_drewN ?_ _ | refine blk_drew ?_ | refine blk_alloc ?_ _)); refine blk_put (cs := #[.string ((rd_T50 y253 (ji3)).f0), .int .i64 ((rd_T50 y253 (ji3)).f1), .int .i64 0, .int .i64 0, .int .i64 0]) ?_ 2 _ rfl; (with_reducible repeat (first | refine blk_drewN ?_ _ | refine blk_drew ?_ | refine blk_alloc ?_ _)); refine blk_put (cs := #[.string ((rd_T50 y253 (ji3)).f0), .int .i64 0, .int .i64 0, .int .i64 0, .int .i64 0]) ?_ 1 _ rfl; (with_reducible repeat (first | refine blk_drewN ?_ _ | refine blk_drew ?_ | refine blk_alloc ?_ _)); refine blk_put (cs := #[.string (⟨#[]⟩ : ByteArray), .int .i64 0, .int .i64 0, .int .i64 0, .int .i64 0]) ?_ 0 _ rfl; (with_reducible repeat (first | refine blk_drewN ?_ _ | refine blk_drew ?_ | refine blk_alloc ?_ _)); exact BK257.out) k_ hk⟩) (Below.refl _ _) (Nat.le_refl _) ?_; intro v259 w13 ho14 hb hg_ hnew_; clear hg_ hnew_; (first | rw [← Ny258.out] at ho14 | (simp only [Int.reduceToNat] at ho14; rw [← Ny258.out] at ho14)); have n0_ := Aside0.mk (Kd.R_below (by (with_reducible repeat (first | apply Kd.R_alloc | apply Kd.R_drewN | apply Kd.R_drew)); exact (Kd.R_mono (Kd.R_far (p := ⟨gb257, 4, none⟩) (Kd.R_far (p := ⟨gb257, 3, none⟩) (Kd.R_far (p := ⟨gb257, 2, none⟩) (Kd.R_far (p := ⟨gb257, 1, none⟩) (Kd.R_far (p := ⟨gb257, 0, none⟩) (Kd.R_mono HO255.out (fun k_ hk => (⟨hk, hk.2⟩ : _ ∧ k_ ≠ gb257))) (fun _ hk => hk.2) (.string ((rd_T50 y253 (ji3)).f0))) (fun _ hk => hk.2) (.int .i64 ((rd_T50 y253 (ji3)).f1))) (fun _ hk => hk.2) (.int .i64 ((rd_T50 y253 (ji3)).f2))) (fun _ hk => hk.2) (.int .i64 ((rd_T50 y253 (ji3)).f3))) (fun _ hk => hk.2) (.int .i64 ((rd_T50 y253 (ji3)).f4))) (fun _ h_ => h_.1))) hb); have n1_ := Aside0.mk (Kd.V_lower ho14 (below_size (by repeat (first | (with_reducible first | exact HB.out | apply below_alloc | apply pw_below_drewN | apply below_drew1 | refine below_set ?_ GE257.out) | exact HB.out)))); have n2_ := Aside0.mk (blk_below (g := gb257) (o := .cells #[.string ((rd_T50 y253 (ji3)).f0), .int .i64 ((rd_T50 y253 (ji3)).f1), .int .i64 ((rd_T50 y253 (ji3)).f2), .int .i64 ((rd_T50 y253 (ji3)).f3), .int .i64 ((rd_T50 y253 (ji3)).f4)] 50 (0, 0)) (by (with_reducible repeat (first | refine blk_drewN ?_ _ | refine blk_drew ?_ | refine blk_alloc ?_ _)); refine blk_put (cs := #[.string ((rd_T50 y253 (ji3)).f0), .int .i64 ((rd_T50 y253 (ji3)).f1), .int .i64 ((rd_T50 y253 (ji3)).f2), .int .i64 ((rd_T50 y253 (ji3)).f3), .int .i64 0]) ?_ 4 _ rfl; (with_reducible repeat (first | refine blk_drewN ?_ _ | refine blk_drew ?_ | refine blk_alloc ?_ _)); refine blk_put (cs := #[.string ((rd_T50 y253 (ji3)).f0), .int .i64 ((rd_T50 y253 (ji3)).f1), .int .i64 ((rd_T50 y253 (ji3)).f2), .int .i64 0, .int .i64 0]) ?_ 3 _ rfl; (with_reducible repeat (first | refine blk_drewN ?_ _ | refine blk_drew ?_ | refine blk_alloc ?_ _)); refine blk_put (cs := #[.string ((rd_T50 y253 (ji3)).f0), .int .i64 ((rd_T50 y253 (ji3)).f1), .int .i64 0, .int .i64 0, .int .i64 0]) ?_ 2 _ rfl; (with_reducible repeat (first | refine blk_drewN ?_ _ | refine blk_drew ?_ | refine blk_alloc ?_ _)); refine blk_put (cs := #[.string ((rd_T50 y253 (ji3)).f0), .int .i64 0, .int .i64 0, .int .i64 0, .int .i64 0]) ?_ 1 _ rfl; (with_reducible repeat (first | refine blk_drewN ?_ _ | refine blk_drew ?_ | refine blk_alloc ?_ _)); refine blk_put (cs := #[.string (⟨#[]⟩ : ByteArray), .int .i64 0, .int .i64 0, .int .i64 0, .int .i64 0]) ?_ 0 _ rfl; (with_reducible repeat (first | refine blk_drewN ?_ _ | refine blk_drew ?_ | refine blk_alloc ?_ _)); exact BK257.out) hb); have n3_ := Aside0.mk (below_step (by repeat (first | (with_reducible first | exact HB.out | apply below_alloc | apply pw_below_drewN | apply below_drew1 | refine below_set ?_ GE257.out) | exact HB.out)) hb); clear HO255; clear BK257; clear HB; have HO255 := n0_; have HO260 := n1_; have BK257 := n2_; have HB := n3_; clear n0_ n1_ n2_ n3_; clear hb ho14; obtain ⟨Ao15, co15, eo15⟩ := Kd.V_slice HO260.out; subst eo15) | ((with_reducible refine gate_callee (f := 33) rfl ?_); refine goesL_ (some 42) rfl rfl Tryd.func33 (by kernel_rfl) rfl #[.slice Ao15 y258.length co15] rfl (by (try simp only [List.map_toArray, List.map_cons, List.map_nil]); first | done | rfl | (simp only [List.length_drop, List.length_take]; rfl)) ?_; (with_reducible refine (csvr_Parse.calls k _ _ y258 t261 t264 t265 _ ?side1 ?side2 A7.out).mono ?_); (case side1 => repeat (first | exact (Kd.V_reads' HO260.out).2.2 | (with_reducible refine Kd.C_alloc ?_ _) | (with_reducible refine Kd.C_drewN ?_ _) | (with_reducible refine Kd.C_drew ?_))); (case side2 => exact (Kd.V_reads' HO260.out).2.1); rintro e w16 ⟨v262, rfl, ho0, hb⟩; refine ⟨_, rfl, ?_⟩; have n0_ := Aside0.mk (Kd.R_below (by (with_reducible repeat (first | apply Kd.R_alloc | apply Kd.R_drewN | apply Kd.R_drew)); exact HO255.out) hb); have n1_ := Aside0.mk (Kd.V_elder' (by (with_reducible repeat (first | apply Kd.V_alloc | apply Kd.V_drewN | apply Kd.V_drew)); exact HO260.out) (Kd.S_base ho0) hb); have n2_ := Aside0.mk (Kd.S_lower ho0 (below_size (by repeat (first | (with_reducible first | exact HB.out | apply below_alloc | apply pw_below_drewN | apply below_drew1 | refine below_set ?_ GE257.out) | exact HB.out)))); have n3_ := Aside0.mk (blk_below (g := gb257) (o := .cells #[.string ((rd_T50 y253 (ji3)).f0), .int .i64 ((rd_T50 y253 (ji3)).f1), .int .i64 ((rd_T50 y253 (ji3)).f2), .int .i64 ((rd_T50 y253 (ji3)).f3), .int .i64 ((rd_T50 y253 (ji3)).f4)] 50 (0, 0)) (by (with_reducible repeat (first | refine blk_drewN ?_ _ | refine blk_drew ?_ | refine blk_alloc ?_ _)); exact BK257.out) hb); have n4_ := Aside0.mk (below_step (by repeat (first | (with_reducible first | exact HB.out | apply below_alloc | apply pw_below_drewN | apply below_drew1 | refine below_set ?_ GE257.out) | exact HB.out)) hb); clear HO255; clear HO260; clear BK257; clear HB; have HO255 := n0_; have HO260 := n1_; have HO263 := n2_; have BK257 := n3_; have HB := n4_; clear n0_ n1_ n2_ n3_ n4_; (try clear hb); (try clear hb2); (try clear hk); (try clear hi); (try clear ho0)) | ((with_reducible refine gate_dst (N := 6) rfl ?_); refine box_event ?hg (N := 6) ?hd (cs := #[.int .i64 0, .int .i64 0]) (t := 54) ?hr ?_; (case hd => rfl); (case hg => rfl); (case hr => first | (go_simp; done) | (go_simp; rfl)); intro gb266 hg w17 hbox hb; have n0_ := Aside0.mk (Kd.R_below (by (with_reducible repeat (first | apply Kd.R_alloc | apply Kd.R_drewN | apply Kd.R_drew)); exact HO255.out) hb); have n1_ := Aside0.mk (Kd.V_below (Kd.V_elderB (by (with_reducible repeat (first | apply Kd.V_alloc | apply Kd.V_drewN | apply Kd.V_drew)); exact HO260.out) gb266 (Nat.le_of_eq hg.symm)) hb); have n2_ := Aside0.mk (Kd.S_below (by (with_reducible repeat (first | apply Kd.S_alloc | apply Kd.S_drewN | apply Kd.S_drew)); exact HO263.out) hb); have n3_ := Aside0.mk (blk_below (g := gb257) (o := .cells #[.string ((rd_T50 y253 (ji3)).f0), .int .i64 ((rd_T50 y253 (ji3)).f1), .int .i64 ((rd_T50 y253 (ji3)).f2), .int .i64 ((rd_T50 y253 (ji3)).f3), .int .i64 ((rd_T50 y253 (ji3)).f4)] 50 (0, 0)) (by (with_reducible repeat (first | refine blk_drewN ?_ _ | refine blk_drew ?_ | refine blk_alloc ?_ _)); exact BK257.out) hb); have n4_ := Aside0.mk (below_step (by repeat (first | (with_reducible first | exact HB.out | apply below_alloc | apply pw_below_drewN | apply below_drew1 | refine below_set ?_ GE257.out) | exact HB.out)) hb); have n5_ := Aside0.mk (hbox); have n6_ := Aside0.mk ((by rw [hg]; exact (below_size (by repeat (first | (with_reducible first | exact HB.out | apply below_alloc | apply pw_below_drewN | apply below_drew1 | refine below_set ?_ GE257.out) | exact HB.out))) : w.heap.size ≤ gb266)); have n7_ := Aside0.mk ((by rw [hg]; exact (below_size (by repeat (first | (with_reducible first | exact HB.out | apply below_alloc | apply pw_below_drewN | apply below_drew1 | refine below_set ?_ GE257.out) | exact HB.out))) : w.heap.size ≤ gb266)); have n8_ := Aside0.mk ((by rw [hg]; exact Nat.ne_of_lt (blk_lt (g := gb257) (o := .cells #[.string ((rd_T50 y253 (ji3)).f0), .int .i64 ((rd_T50 y253 (ji3)).f1), .int .i64 ((rd_T50 y253 (ji3)).f2), .int .i64 ((rd_T50 y253 (ji3)).f3), .int .i64 ((rd_T50 y253 (ji3)).f4)] 50 (0, 0)) (by (with_reducible repeat (first | refine blk_drewN ?_ _ | refine blk_drew ?_ | refine blk_alloc ?_ _)); exact BK257.out)) : gb257 ≠ gb266)); have n9_ := Aside0.mk ((by rw [hg]; exact Nat.ne_of_gt (blk_lt (g := gb257) (o := .cells #[.string ((rd_T50 y253 (ji3)).f0), .int .i64 ((rd_T50 y253 (ji3)).f1), .int .i64 ((rd_T50 y253 (ji3)).f2), .int .i64 ((rd_T50 y253 (ji3)).f3), .int .i64 ((rd_T50 y253 (ji3)).f4)] 50 (0, 0)) (by (with_reducible repeat (first | refine blk_drewN ?_ _ | refine blk_drew ?_ | refine blk_alloc ?_ _)); exact BK257.out)) : gb266 ≠ gb257)); clear HO255; clear HO260; clear HO263; clear BK257; clear HB; have HO255 := n0_; have HO260 := n1_; have HO263 := n2_; have BK257 := n3_; have HB := n4_; have BK266 := n5_; have GW266 := n6_; have GE266 := n7_; have NB257_266 := n8_; have NB266_257 := n9_; clear n0_ n1_ n2_ n3_ n4_ n5_ n6_ n7_ n8_ n9_; clear hb hbox hg; have hnb18 := NB266_257.out; have hnc18 := NB257_266.out; have hcz19_0 : w17.cell? ⟨gb266, 0, none⟩ = some (.int .i64 0) := (blk_cell BK266.out 0).trans rfl; have hcz19_1 : w17.cell? ⟨gb266, 1, none⟩ = some (.int .i64 0) := (blk_cell BK266.out 1).trans rfl; have hfz19_0 := blk_frozen BK266.out 0; have hfz19_1 := blk_frozen BK266.out 1; obtain ⟨Ao20, co20, eo20⟩ := Kd.S_slice HO263.out; subst eo20))
          go_loopg [7, 47] k (fun kq v7 v47 w' => ∃ (x7_1 : Int) (x47_1 : Int), v7 = .int .i64 x7_1 ∧ v47 = .int .i64 x47_1 ∧ Aside0 (glebelaw9_CsvrForms.l0 kq t261 x7_1 (t261.length : Int) x47_1 ((rd_T50 y253 (ji3)).f0) ((rd_T50 y253 (ji3)).f1) ((rd_T50 y253 (ji3)).f2) ((rd_T50 y253 (ji3)).f3) ((rd_T50 y253 (ji3)).f4) t264 t265 = some r) ∧ Aside0 (kq ≤ k) ∧ Aside0 (Kd.S (Kd.slice 59 k59) 57 w' w.heap.size (fun _ => True) (.slice Ao20 t261.length co20) t261) ∧ Aside0 (w'.heap[gb257]? = some (.cells #[.string ((rd_T50 y253 (ji3)).f0), .int .i64 ((rd_T50 y253 (ji3)).f1), .int .i64 ((rd_T50 y253 (ji3)).f2), .int .i64 ((rd_T50 y253 (ji3)).f3), .int .i64 ((rd_T50 y253 (ji3)).f4)] 50 (0, 0))) ∧ Aside0 (w'.heap[gb266]? = some (.cells #[.int .i64 t264, .int .i64 t265] 54 (0, 0))) ∧ Aside0 (Below w.heap.size w w'))
          case atStart => exact ⟨(0), (0), (by first | rfl | (simp only [i64_w]; done) | (simp; done) | (simp [*]; done)), (by first | rfl | (simp only [i64_w]; done) | (simp; done) | (simp [*]; done)), H', ⟨Nat.le_refl _⟩, ⟨by (with_reducible repeat (first | apply Kd.S_alloc | apply Kd.S_drewN | apply Kd.S_drew)); exact Kd.S_mono (Kd.S_far (p := ⟨gb266, 1, none⟩) (Kd.S_far (p := ⟨gb266, 0, none⟩) (Kd.S_types HO263.out BK266.out (by decide)) (fun _ hk => hk.2) (.int .i64 t264)) (fun _ hk => hk.2) (.int .i64 t265)) (fun _ hk => trivial)⟩, ⟨by (with_reducible repeat (first | refine blk_drewN ?_ _ | refine blk_drew ?_ | refine blk_alloc ?_ _)); refine blk_far ?_ NB257_266.out _; (with_reducible repeat (first | refine blk_drewN ?_ _ | refine blk_drew ?_ | refine blk_alloc ?_ _)); refine blk_far ?_ NB257_266.out _; (with_reducible repeat (first | refine blk_drewN ?_ _ | refine blk_drew ?_ | refine blk_alloc ?_ _)); exact BK257.out⟩, ⟨by (with_reducible repeat (first | refine blk_drewN ?_ _ | refine blk_drew ?_ | refine blk_alloc ?_ _)); refine blk_put (cs := #[.int .i64 t264, .int .i64 0]) ?_ 1 _ rfl; (with_reducible repeat (first | refine blk_drewN ?_ _ | refine blk_drew ?_ | refine blk_alloc ?_ _)); refine blk_put (cs := #[.int .i64 0, .int .i64 0]) ?_ 0 _ rfl; (with_reducible repeat (first | refine blk_drewN ?_ _ | refine blk_drew ?_ | refine blk_alloc ?_ _)); exact BK266.out⟩, ⟨by repeat (first | (with_reducible first | exact HB.out | apply below_alloc | apply pw_below_drewN | apply below_drew1 | refine below_set ?_ GE257.out | refine below_set ?_ GE266.out) | exact HB.out)⟩⟩
          case round =>
            clear H'
            try clear c1
            try clear c2
            try clear c2b0
            try clear c2b1
            try clear c2b2
            try clear p2
            try clear q2
            try clear hx2
            try clear c3
            try clear c4
            try clear c4b0
            try clear c5
            try clear c5b0
            try clear c6
            try clear c6b0
            try clear c6b1
            try clear c6b2
            try clear c10
            try clear c18
            try clear hcz12_0
            try clear hcz12_1
            try clear hcz12_2
            try clear hcz12_3
            try clear hcz12_4
            try clear hcz19_0
            try clear hcz19_1
            try clear hfz12_0
            try clear hfz12_1
            try clear hfz12_2
            try clear hfz12_3
            try clear hfz12_4
            try clear hfz19_0
            try clear hfz19_1
            try clear hx256_0
            try clear hx256_1
            try clear hx256_2
            try clear hx256_3
            try clear hx256_4
            try clear p256
            try clear q256
            obtain ⟨x7_1, x47_1, rfl, rfl, HA, HK1, HO_5, BK257, BK266, HB⟩ := hrel
            cases gk with
            | zero => exact absurd HA.out (by simp [glebelaw9_CsvrForms.l0])
            | succ k1 =>
              have H := HA.out
              clear HA
              simp only [glebelaw9_CsvrForms.l0] at H
              by_cases c21 : x47_1 < (t261.length : Int)
              · rw [if_pos c21] at H
                have c21b0 : decide (x47_1 < (t261.length : Int)) = true := decide_eq_true c21
                clear c21
                by_cases c22 : 0 ≤ x47_1
                · rw [if_pos c22] at H
                  have c22b0 : decide (0 ≤ x47_1) = true := decide_eq_true c22
                  clear c22
                  by_cases c23 : x47_1 < (t261.length : Int)
                  · rw [if_pos c23] at H
                    have c23b0 : decide (x47_1 < (t261.length : Int)) = true := decide_eq_true c23
                    clear c23
                    have H' := Aside0.mk H
                    clear H
                    have p267 : 0 ≤ (x47_1 : Int) := of_decide_eq_true (by first | (with_reducible assumption) | assumption)
                    have q267 : x47_1 < (t261.length : Int) := of_decide_eq_true (by first | (with_reducible assumption) | assumption)
                    obtain ⟨ad267, A267_0, c267_0, e267, hx267_0, hl267_0, hi267_0⟩ := at_L4 (Kd.S_reads' HO_5.out).2.2 x47_1 p267 q267
                    cases e267
                    obtain ⟨ce267, hce267, hMe267, hcc267⟩ := Kd.S_get HO_5.out [] x47_1 p267 (by first | exact q267 | exact of_decide_eq_true (by first | (with_reducible assumption) | assumption) | (have e_ := (Kd.S_reads' HO_5.out).1; omega))
                    obtain ⟨ve267_0, rfl, ge267_0⟩ := hMe267
                    have hv267_0 := hcc267 0 _ rfl
                    rw [Nat.add_zero, show ((Kd.slice 59 k59)).sz = 1 from rfl, Nat.mul_one] at hv267_0
                    replace hv267_0 := Option.some.inj (hv267_0.symm.trans hx267_0)
                    rw [hv267_0] at ge267_0
                    have HL267_0 := Aside0.mk (show Kd.R k59 59 _ _ _ _ (rd_L4 t261 x47_1) from ge267_0)
                    clear hv267_0 ge267_0
                    clear hcc267 hce267
                    have HR267_0 := Aside0.mk hi267_0
                    have HC267_0 := Aside0.mk hl267_0
                    clear hi267_0 hl267_0
                    replace p267 := eq_true p267
                    replace q267 := eq_true q267
                    go_wp2
                    go_roundg k1
                    case measure => have := HK1.out; omega
                    case rel => exact ⟨(wrap64 (x7_1 + ((rd_L4 t261 x47_1).length : Int))), (wrap64 (x47_1 + 1)), (by first | rfl | (simp only [i64_w]; done) | (simp; done) | (simp [*]; done)), (by first | rfl | (simp only [i64_w]; done) | (simp; done) | (simp [*]; done)), H', ⟨by have := HK1.out; omega⟩, ⟨by (with_reducible repeat (first | apply Kd.S_alloc | apply Kd.S_drewN | apply Kd.S_drew)); exact HO_5.out⟩, ⟨by (with_reducible repeat (first | refine blk_drewN ?_ _ | refine blk_drew ?_ | refine blk_alloc ?_ _)); exact BK257.out⟩, ⟨by (with_reducible repeat (first | refine blk_drewN ?_ _ | refine blk_drew ?_ | refine blk_alloc ?_ _)); exact BK266.out⟩, ⟨by repeat (first | (with_reducible first | exact HB.out | apply below_alloc | apply pw_below_drewN | apply below_drew1 | refine below_set ?_ GE257.out | refine below_set ?_ GE266.out) | exact HB.out)⟩⟩
                  · rw [if_neg c23] at H
                    exact absurd H (by simp)
                · rw [if_neg c22] at H
                  exact absurd H (by simp)
              · rw [if_neg c21] at H
                have c21b0 : decide (x47_1 < (t261.length : Int)) = false := decide_eq_false c21
                clear c21
                by_cases c24 : (t261.length : Int) = ((rd_T50 y253 (ji3)).f1)
                · rw [if_pos c24] at H
                  have c24b0 : ((t261.length : Int) == ((rd_T50 y253 (ji3)).f1)) = true := beq_iff_eq.mpr c24
                  have c24b1 : ((t261.length : Int) != ((rd_T50 y253 (ji3)).f1)) = false := bne_eq_false_iff_eq.mpr c24
                  clear c24
                  by_cases c25 : x7_1 = ((rd_T50 y253 (ji3)).f2)
                  · rw [if_pos c25] at H
                    have c25b0 : (x7_1 == ((rd_T50 y253 (ji3)).f2)) = true := beq_iff_eq.mpr c25
                    have c25b1 : (x7_1 != ((rd_T50 y253 (ji3)).f2)) = false := bne_eq_false_iff_eq.mpr c25
                    clear c25
                    by_cases c26 : (t264 == ((rd_T50 y253 (ji3)).f3) && (t265 == ((rd_T50 y253 (ji3)).f4))) = true
                    · rw [if_pos c26] at H
                      have c26b0 : (t264 == ((rd_T50 y253 (ji3)).f3) && (t265 == ((rd_T50 y253 (ji3)).f4))) = true := c26
                      (try (have c26b1 : decide (t264 = ((rd_T50 y253 (ji3)).f3) && (t265 == ((rd_T50 y253 (ji3)).f4))) = true := by simpa using c26))
                      (try (have c26b2 : (t264 == ((rd_T50 y253 (ji3)).f3) && (t265 == ((rd_T50 y253 (ji3)).f4))) = true := by simpa using c26))
                      clear c26
                      replace H := Option.bind_eq_some_iff.mp H
                      obtain ⟨t268, A270, H⟩ := H
                      replace H : (some t268) = some r := H
                      have A27 := Aside0.mk A270
                      clear A270
                      obtain rfl := Option.some.inj H
                      have hnb28 := NB257_266.out
                      have hnc28 := NB266_257.out
                      have hcz29_0 : wr.cell? ⟨gb257, 0, none⟩ = some (.string ((rd_T50 y253 (ji3)).f0)) := (blk_cell BK257.out 0).trans rfl
                      have hcz29_1 : wr.cell? ⟨gb257, 1, none⟩ = some (.int .i64 ((rd_T50 y253 (ji3)).f1)) := (blk_cell BK257.out 1).trans rfl
                      have hcz29_2 : wr.cell? ⟨gb257, 2, none⟩ = some (.int .i64 ((rd_T50 y253 (ji3)).f2)) := (blk_cell BK257.out 2).trans rfl
                      have hcz29_3 : wr.cell? ⟨gb257, 3, none⟩ = some (.int .i64 ((rd_T50 y253 (ji3)).f3)) := (blk_cell BK257.out 3).trans rfl
                      have hcz29_4 : wr.cell? ⟨gb257, 4, none⟩ = some (.int .i64 ((rd_T50 y253 (ji3)).f4)) := (blk_cell BK257.out 4).trans rfl
                      have hfz29_0 := blk_frozen BK257.out 0
                      have hfz29_1 := blk_frozen BK257.out 1
                      have hfz29_2 := blk_frozen BK257.out 2
                      have hfz29_3 := blk_frozen BK257.out 3
                      have hfz29_4 := blk_frozen BK257.out 4
                      have hcz30_0 : wr.cell? ⟨gb266, 0, none⟩ = some (.int .i64 t264) := (blk_cell BK266.out 0).trans rfl
                      have hcz30_1 : wr.cell? ⟨gb266, 1, none⟩ = some (.int .i64 t265) := (blk_cell BK266.out 1).trans rfl
                      have hfz30_0 := blk_frozen BK266.out 0
                      have hfz30_1 := blk_frozen BK266.out 1
                      go_wp2_with (first | (go_at_call 34; (with_reducible refine (glebelaw9_awake.calls k1  t268 _ ?side1 A27.out).mono ?_); (case side1 => exact XM.Tabs.below hMax (by repeat (first | (with_reducible first | exact HB.out | apply below_alloc | apply pw_below_drewN | apply below_drew1 | refine below_set ?_ GE257.out | refine below_set ?_ GE266.out) | exact HB.out))); rintro e w31 ⟨rfl, hb⟩; have n0_ := Aside0.mk (Kd.S_below (by (with_reducible repeat (first | apply Kd.S_alloc | apply Kd.S_drewN | apply Kd.S_drew)); exact HO_5.out) hb); have n1_ := Aside0.mk (blk_below (g := gb257) (o := .cells #[.string ((rd_T50 y253 (ji3)).f0), .int .i64 ((rd_T50 y253 (ji3)).f1), .int .i64 ((rd_T50 y253 (ji3)).f2), .int .i64 ((rd_T50 y253 (ji3)).f3), .int .i64 ((rd_T50 y253 (ji3)).f4)] 50 (0, 0)) (by (with_reducible repeat (first | refine blk_drewN ?_ _ | refine blk_drew ?_ | refine blk_alloc ?_ _)); exact BK257.out) hb); have n2_ := Aside0.mk (blk_below (g := gb266) (o := .cells #[.int .i64 t264, .int .i64 t265] 54 (0, 0)) (by (with_reducible repeat (first | refine blk_drewN ?_ _ | refine blk_drew ?_ | refine blk_alloc ?_ _)); exact BK266.out) hb); have n3_ := Aside0.mk (below_step (by repeat (first | (with_reducible first | exact HB.out | apply below_alloc | apply pw_below_drewN | apply below_drew1 | refine below_set ?_ GE257.out | refine below_set ?_ GE266.out) | exact HB.out)) hb); clear HO_5; clear BK257; clear BK266; clear HB; have HO_5 := n0_; have BK257 := n1_; have BK266 := n2_; have HB := n3_; clear n0_ n1_ n2_ n3_; (try clear hb); (try clear hb2); (try clear hk); (try clear hi)))
                      go_ret
                      exact ⟨by first | rfl | (simp [errW_none, errW_some] <;> rfl) | (simp only [← hji3]; first | rfl | (simp [errW_none, errW_some] <;> rfl)) | (simp [*, errW_none, errW_some] <;> rfl), by repeat (first | (with_reducible first | exact HB.out | apply below_alloc | apply pw_below_drewN | apply below_drew1 | refine below_set ?_ GE257.out | refine below_set ?_ GE266.out) | exact HB.out)⟩
                    · rw [if_neg c26] at H
                      exact absurd H (by simp)
                  · rw [if_neg c25] at H
                    exact absurd H (by simp)
                · rw [if_neg c24] at H
                  exact absurd H (by simp)
        · rw [if_neg c6] at H
          exact absurd H (by simp)
      · rw [if_neg c5] at H
        exact absurd H (by simp)
    · rw [if_neg c4] at H
      exact absurd H (by simp)

/-- THE ONE PURE STATEMENT of glebelaw9_CsvrForms: yours. -/
def glebelaw9_CsvrForms.Pure : Prop := ∀ (a0 : Int), (Lit.int .i64 a0).wf = true → ∃ k, glebelaw9_CsvrForms.f k a0 = some true
theorem glebelaw9_CsvrForms.walk (P : glebelaw9_CsvrForms.Pure) (a0 : Int) (w : World) (w0 : (Lit.int .i64 a0).wf = true) (hMax : XM.Tabs w) :
    Calls Tryd.prog 10 #[.int .i64 a0] w fun e w' => e = .returned (.bool true) ∧ Below w.heap.size w w' := by
  obtain ⟨k, h⟩ := P a0 w0
  refine (glebelaw9_CsvrForms.calls k a0 true w hMax h).mono ?_
  rintro e w' ⟨rfl, hd⟩
  exact ⟨rfl, hd⟩

end Go.Proofs.YtcgchblljhbdaaaDoor.C
