-- Printed by this session's own program (wip/xprint) out of the translation. Lean checks it.
import Derived.Test.YtnkcffmklomfhaaXx0
import Derived.Test.YtnkcffmklomfhaaXx1
import Derived.Test.YtnkcffmklomfhaaXx5
import Derived.Test.YtnkcffmklomfhaaXx6
namespace Go.Proofs.Ytnkcffmklomfhaa.X
open Go.Proofs.Ytnkcffmklomfhaa
open Go.RowKit Go.Proofs.YtnkcffmklomfhaaW.PrintWords Go.Proofs.YtnkcffmklomfhaaW.PrintLast Go.Proofs.YtnkcffmklomfhaaW.PrintMore
attribute [local go_sem] max2_int min2_int max_two min_two max_three min_three max_four min_four   -- for this text's walks alone
set_option linter.unusedVariables false
set_option linter.unusedSimpArgs false

attribute [local go_sem high] eqA26
/-! ### glebelaw8_IsctLong: function 4 -/
mutual
def glebelaw8_IsctLong.l0 : Nat → Int → Bool → Bool → ByteArray → Int → Option (Bool)
  | 0, _, _, _, _, _ => none
  | k + 1, x0, x1, x2, x7, x8 => if x8 < x0 then (if x1 = true then (if (Go.bits .and .i64 x8 7) = 3 then (if x7.size + 2 ≤ 9223372036854775807 then (glebelaw8_IsctLong.l0 k x0 x1 x2 (x7 ++ (⟨#[92, 34]⟩ : ByteArray)) (wrap64 (x8 + 1))) else (none)) else (if x7.size + 1 ≤ 9223372036854775807 then (glebelaw8_IsctLong.l0 k x0 x1 x2 (x7 ++ (⟨#[97]⟩ : ByteArray)) (wrap64 (x8 + 1))) else (none))) else (if x7.size + 1 ≤ 9223372036854775807 then (glebelaw8_IsctLong.l0 k x0 x1 x2 (x7 ++ (⟨#[97]⟩ : ByteArray)) (wrap64 (x8 + 1))) else (none))) else (if 2 + x7.size ≤ 9223372036854775807 then (if x1 = true then (if 3 + x7.size ≤ 9223372036854775807 then (if 3 + x7.size + 1 ≤ 9223372036854775807 then (glebelaw8_IsctLong.j1 k x0 x1 x2 x7 (((⟨#[120, 32, 34]⟩ : ByteArray) ++ x7) ++ (⟨#[34]⟩ : ByteArray))) else (none)) else (none)) else (glebelaw8_IsctLong.j1 k x0 x1 x2 x7 ((⟨#[120, 32]⟩ : ByteArray) ++ x7))) else (none))
def glebelaw8_IsctLong.j1 : Nat → Int → Bool → Bool → ByteArray → ByteArray → Option (Bool)
  | 0, _, _, _, _, _ => none
  | k + 1, x0, x1, x2, x7, x9 => if x2 = true then (if 3 + x7.size ≤ 9223372036854775807 then (if 3 + x7.size + 1 ≤ 9223372036854775807 then ((isct_Tokens.f k (bytesOf (((⟨#[120, 32, 34]⟩ : ByteArray) ++ x7) ++ (⟨#[9]⟩ : ByteArray)))).bind fun bt248 => (if (bt248.2.1 == 1 && (bt248.2.2 == (wrap64 (((((⟨#[120, 32, 34]⟩ : ByteArray) ++ x7) ++ (⟨#[9]⟩ : ByteArray)).size : Int) - 1)))) = true then ((glebelaw8_awake.f k).bind fun t254 => (some t254)) else (none))) else (none)) else (none)) else (if x9.size ≤ 9223372036854775807 then ((isct_Tokens.f k (bytesOf x9)).bind fun bt258 => (if x0 > 255 then (if (bt258.2.1 == 2 && (bt258.2.2 == 2)) = true then (if (bt258.1.length : Int) = 0 then ((glebelaw8_awake.f k).bind fun t264 => (some t264)) else (none)) else (none)) else (if x1 = true then (if (bt258.2.1 == 0 && (bt258.2.2 == 0)) = true then (if (bt258.1.length : Int) = 2 then (if 1 < (bt258.1.length : Int) then (if (((rd_T33 bt258.1 1).f1).size : Int) = x0 then ((glebelaw8_awake.f k).bind fun t266 => (some t266)) else (none)) else (none)) else (none)) else (none)) else (if x0 = 0 then (if (bt258.2.1 == 0 && (bt258.2.2 == 0)) = true then (if (bt258.1.length : Int) = 1 then ((glebelaw8_awake.f k).bind fun t267 => (some t267)) else (none)) else (none)) else (if (bt258.2.1 == 0 && (bt258.2.2 == 0)) = true then (if (bt258.1.length : Int) = 2 then (if 1 < (bt258.1.length : Int) then (if (((rd_T33 bt258.1 1).f1).size : Int) = x0 then ((glebelaw8_awake.f k).bind fun t269 => (some t269)) else (none)) else (none)) else (none)) else (none)))))) else (none))
end
def glebelaw8_IsctLong.f (k : Nat) (a0 : Int) (a1 : Bool) (a2 : Bool) : Option (Bool) := glebelaw8_IsctLong.l0 k (Go.bits .and .i64 a0 511) a1 a2 (⟨#[]⟩ : ByteArray) 0
theorem glebelaw8_IsctLong.mono_l : ∀ k, (∀ y0 y1 y2 y3 y4, LeO (glebelaw8_IsctLong.l0 k y0 y1 y2 y3 y4) (glebelaw8_IsctLong.l0 (k + 1) y0 y1 y2 y3 y4)) ∧ (∀ y0 y1 y2 y3 y4, LeO (glebelaw8_IsctLong.j1 k y0 y1 y2 y3 y4) (glebelaw8_IsctLong.j1 (k + 1) y0 y1 y2 y3 y4))
  | 0 => ⟨fun _ _ _ _ _ r h => by simp [glebelaw8_IsctLong.l0] at h, fun _ _ _ _ _ r h => by simp [glebelaw8_IsctLong.j1] at h⟩
  | k + 1 => by
    obtain ⟨ih0, ih1⟩ := glebelaw8_IsctLong.mono_l k
    refine ⟨?_, ?_⟩
    · intro y0 y1 y2 y3 y4
      unfold glebelaw8_IsctLong.l0
      repeat' first
      | (with_reducible exact ih0 _ _ _ _ _)
      | (with_reducible exact ih1 _ _ _ _ _)
      | (with_reducible exact glebelaw8_awake.mono _)
      | (with_reducible exact isct_Tokens.mono _ _)
      | (with_reducible exact LeO.refl _)
      | (with_reducible exact LeO.none _)
      | (with_reducible refine LeO.ite ?_ ?_)
      | (with_reducible refine LeO.bind ?_ (fun _ => ?_))
      | exact ih0 _ _ _ _ _
      | exact ih1 _ _ _ _ _
      | exact glebelaw8_awake.mono _
      | exact isct_Tokens.mono _ _
      | exact LeO.none _
      | refine LeO.ite ?_ ?_
      | refine LeO.bind ?_ (fun _ => ?_)
    · intro y0 y1 y2 y3 y4
      unfold glebelaw8_IsctLong.j1
      repeat' first
      | (with_reducible exact ih0 _ _ _ _ _)
      | (with_reducible exact ih1 _ _ _ _ _)
      | (with_reducible exact glebelaw8_awake.mono _)
      | (with_reducible exact isct_Tokens.mono _ _)
      | (with_reducible exact LeO.refl _)
      | (with_reducible exact LeO.none _)
      | (with_reducible refine LeO.ite ?_ ?_)
      | (with_reducible refine LeO.bind ?_ (fun _ => ?_))
      | exact ih0 _ _ _ _ _
      | exact ih1 _ _ _ _ _
      | exact glebelaw8_awake.mono _
      | exact isct_Tokens.mono _ _
      | exact LeO.none _
      | refine LeO.ite ?_ ?_
      | refine LeO.bind ?_ (fun _ => ?_)
theorem glebelaw8_IsctLong.mono : ∀ a0 a1 a2 k, LeO (glebelaw8_IsctLong.f k a0 a1 a2) (glebelaw8_IsctLong.f (k + 1) a0 a1 a2) := by
  intro a0 a1 a2 k
  obtain ⟨ih0, ih1⟩ := glebelaw8_IsctLong.mono_l k
  unfold glebelaw8_IsctLong.f
  repeat' first
      | (with_reducible exact ih0 _ _ _ _ _)
      | (with_reducible exact ih1 _ _ _ _ _)
      | (with_reducible exact glebelaw8_awake.mono _)
      | (with_reducible exact isct_Tokens.mono _ _)
      | (with_reducible exact LeO.refl _)
      | (with_reducible exact LeO.none _)
      | (with_reducible refine LeO.ite ?_ ?_)
      | (with_reducible refine LeO.bind ?_ (fun _ => ?_))
      | exact ih0 _ _ _ _ _
      | exact ih1 _ _ _ _ _
      | exact glebelaw8_awake.mono _
      | exact isct_Tokens.mono _ _
      | exact LeO.none _
      | refine LeO.ite ?_ ?_
      | refine LeO.bind ?_ (fun _ => ?_)
set_option maxHeartbeats 8000000 in
set_option maxRecDepth 100000 in
theorem glebelaw8_IsctLong.calls (k : Nat) (a0 : Int) (a1 : Bool) (a2 : Bool) (r : Bool) (w : World) (h : glebelaw8_IsctLong.f k a0 a1 a2 = some r) :
    Calls Try.prog 4 #[.int .i64 a0, .bool a1, .bool a2] w fun e w' => e = .returned (.bool r) ∧ Below w.heap.size w w' := by
  have hu26 := Try.underlying26
  have HB := Aside0.mk (Below.refl w.heap.size w)
  have H : (glebelaw8_IsctLong.l0 k (Go.bits .and .i64 a0 511) a1 a2 (⟨#[]⟩ : ByteArray) 0) = some r := h
  clear h
  have H' := Aside0.mk H
  clear H
  go_enter Try.func4, Try.ntmps4
  go_wp2
  go_loopg [7, 8] k (fun kq v7 v8 w' => ∃ (x7_1 : ByteArray) (x8_1 : Int), v7 = .string x7_1 ∧ v8 = .int .i64 x8_1 ∧ Aside0 (glebelaw8_IsctLong.l0 kq (Go.bits .and .i64 a0 511) a1 a2 x7_1 x8_1 = some r) ∧ Aside0 (kq ≤ k) ∧ Aside0 (Below w.heap.size w w'))
  case atStart => exact ⟨((⟨#[]⟩ : ByteArray)), (0), (by first | rfl | (simp; done) | (simp [*]; done)), (by first | rfl | (simp; done) | (simp [*]; done)), H', ⟨Nat.le_refl _⟩, ⟨by repeat (first | (with_reducible first | exact HB.out | apply below_alloc | apply pw_below_drewN | apply below_drew1) | exact HB.out)⟩⟩
  case round =>
    clear H'
    try clear p2
    obtain ⟨x7_1, x8_1, rfl, rfl, HA, HK1, HB⟩ := hrel
    cases gk with
    | zero => exact absurd HA.out (by simp [glebelaw8_IsctLong.l0])
    | succ k1 =>
      have H := HA.out
      clear HA
      simp only [glebelaw8_IsctLong.l0] at H
      by_cases c4 : x8_1 < (Go.bits .and .i64 a0 511)
      · rw [if_pos c4] at H
        have c4b0 : decide (x8_1 < (Go.bits .and .i64 a0 511)) = true := decide_eq_true c4
        clear c4
        by_cases c5 : a1 = true
        · subst c5
          have H1 : (if (Go.bits .and .i64 x8_1 7) = 3 then (if x7_1.size + 2 ≤ 9223372036854775807 then (glebelaw8_IsctLong.l0 k1 (Go.bits .and .i64 a0 511) true a2 (x7_1 ++ (⟨#[92, 34]⟩ : ByteArray)) (wrap64 (x8_1 + 1))) else (none)) else (if x7_1.size + 1 ≤ 9223372036854775807 then (glebelaw8_IsctLong.l0 k1 (Go.bits .and .i64 a0 511) true a2 (x7_1 ++ (⟨#[97]⟩ : ByteArray)) (wrap64 (x8_1 + 1))) else (none))) = some r := by rw [if_pos rfl] at H; exact H
          clear H
          have H := H1
          clear H1
          by_cases c6 : (Go.bits .and .i64 x8_1 7) = 3
          · rw [if_pos c6] at H
            have c6b0 : ((Go.bits .and .i64 x8_1 7) == 3) = true := beq_iff_eq.mpr c6
            have c6b1 : ((Go.bits .and .i64 x8_1 7) != 3) = false := bne_eq_false_iff_eq.mpr c6
            clear c6
            by_cases c7 : x7_1.size + 2 ≤ 9223372036854775807
            · rw [if_pos c7] at H
              have c7b0 := eq_true c7
              have c7b1 : decide (x7_1.size + 2 ≤ 9223372036854775807) = true := decide_eq_true c7
              try have c7b2 : (9223372036854775807 < x7_1.size + 2) = False := eq_false (Nat.not_lt.2 c7)
              have H' := Aside0.mk H
              clear H
              go_wp2
              go_roundg k1
              case measure => have := HK1.out; omega
              case rel => exact ⟨(x7_1 ++ (⟨#[92, 34]⟩ : ByteArray)), (wrap64 (x8_1 + 1)), (by first | rfl | (simp; done) | (simp [*]; done)), (by first | rfl | (simp; done) | (simp [*]; done)), H', ⟨by have := HK1.out; omega⟩, ⟨by repeat (first | (with_reducible first | exact HB.out | apply below_alloc | apply pw_below_drewN | apply below_drew1) | exact HB.out)⟩⟩
            · rw [if_neg c7] at H
              exact absurd H (by simp)
          · rw [if_neg c6] at H
            have c6b0 : ((Go.bits .and .i64 x8_1 7) == 3) = false := beq_eq_false_iff_ne.mpr c6
            have c6b1 : ((Go.bits .and .i64 x8_1 7) != 3) = true := bne_iff_ne.mpr c6
            by_cases c8 : x7_1.size + 1 ≤ 9223372036854775807
            · rw [if_pos c8] at H
              have c8b0 := eq_true c8
              have c8b1 : decide (x7_1.size + 1 ≤ 9223372036854775807) = true := decide_eq_true c8
              try have c8b2 : (9223372036854775807 < x7_1.size + 1) = False := eq_false (Nat.not_lt.2 c8)
              have H' := Aside0.mk H
              clear H
              go_wp2
              go_roundg k1
              case measure => have := HK1.out; omega
              case rel => exact ⟨(x7_1 ++ (⟨#[97]⟩ : ByteArray)), (wrap64 (x8_1 + 1)), (by first | rfl | (simp; done) | (simp [*]; done)), (by first | rfl | (simp; done) | (simp [*]; done)), H', ⟨by have := HK1.out; omega⟩, ⟨by repeat (first | (with_reducible first | exact HB.out | apply below_alloc | apply pw_below_drewN | apply below_drew1) | exact HB.out)⟩⟩
            · rw [if_neg c8] at H
              exact absurd H (by simp)
        · replace c5 := Bool.eq_false_iff.mpr c5
          subst c5
          have H1 : (if x7_1.size + 1 ≤ 9223372036854775807 then (glebelaw8_IsctLong.l0 k1 (Go.bits .and .i64 a0 511) false a2 (x7_1 ++ (⟨#[97]⟩ : ByteArray)) (wrap64 (x8_1 + 1))) else (none)) = some r := by rw [if_neg (show ¬ (false = true) by decide)] at H; exact H
          clear H
          have H := H1
          clear H1
          by_cases c9 : x7_1.size + 1 ≤ 9223372036854775807
          · rw [if_pos c9] at H
            have c9b0 := eq_true c9
            have c9b1 : decide (x7_1.size + 1 ≤ 9223372036854775807) = true := decide_eq_true c9
            try have c9b2 : (9223372036854775807 < x7_1.size + 1) = False := eq_false (Nat.not_lt.2 c9)
            have H' := Aside0.mk H
            clear H
            go_wp2
            go_roundg k1
            case measure => have := HK1.out; omega
            case rel => exact ⟨(x7_1 ++ (⟨#[97]⟩ : ByteArray)), (wrap64 (x8_1 + 1)), (by first | rfl | (simp; done) | (simp [*]; done)), (by first | rfl | (simp; done) | (simp [*]; done)), H', ⟨by have := HK1.out; omega⟩, ⟨by repeat (first | (with_reducible first | exact HB.out | apply below_alloc | apply pw_below_drewN | apply below_drew1) | exact HB.out)⟩⟩
          · rw [if_neg c9] at H
            exact absurd H (by simp)
      · rw [if_neg c4] at H
        have c4b0 : decide (x8_1 < (Go.bits .and .i64 a0 511)) = false := decide_eq_false c4
        clear c4
        by_cases c10 : 2 + x7_1.size ≤ 9223372036854775807
        · rw [if_pos c10] at H
          have c10b0 := eq_true c10
          have c10b1 : decide (2 + x7_1.size ≤ 9223372036854775807) = true := decide_eq_true c10
          try have c10b2 : (9223372036854775807 < 2 + x7_1.size) = False := eq_false (Nat.not_lt.2 c10)
          have HC11 := Aside0.mk H
          clear H
          go_upto_if 34 with (fail)
          go_cut [9] (fun v9 wc => ∃ (kq : Nat) (x9_10 : ByteArray), v9 = .string x9_10 ∧ Aside0 (glebelaw8_IsctLong.j1 kq (Go.bits .and .i64 a0 511) a1 a2 x7_1 x9_10 = some r) ∧ Aside0 (kq ≤ k1) ∧ Aside0 (Below w.heap.size w wc))
          case first =>
            have H := HC11.out
            clear HC11
            by_cases c12 : a1 = true
            · subst c12
              have H1 : (if 3 + x7_1.size ≤ 9223372036854775807 then (if 3 + x7_1.size + 1 ≤ 9223372036854775807 then (glebelaw8_IsctLong.j1 k1 (Go.bits .and .i64 a0 511) true a2 x7_1 (((⟨#[120, 32, 34]⟩ : ByteArray) ++ x7_1) ++ (⟨#[34]⟩ : ByteArray))) else (none)) else (none)) = some r := by rw [if_pos rfl] at H; exact H
              clear H
              have H := H1
              clear H1
              by_cases c13 : 3 + x7_1.size ≤ 9223372036854775807
              · rw [if_pos c13] at H
                have c13b0 := eq_true c13
                have c13b1 : decide (3 + x7_1.size ≤ 9223372036854775807) = true := decide_eq_true c13
                try have c13b2 : (9223372036854775807 < 3 + x7_1.size) = False := eq_false (Nat.not_lt.2 c13)
                by_cases c14 : 3 + x7_1.size + 1 ≤ 9223372036854775807
                · rw [if_pos c14] at H
                  have c14b0 := eq_true c14
                  have c14b1 : decide (3 + x7_1.size + 1 ≤ 9223372036854775807) = true := decide_eq_true c14
                  try have c14b2 : (9223372036854775807 < 3 + x7_1.size + 1) = False := eq_false (Nat.not_lt.2 c14)
                  have H' := Aside0.mk H
                  clear H
                  go_wp2
                  go_meet
                  case rel => exact ⟨_, (((⟨#[120, 32, 34]⟩ : ByteArray) ++ x7_1) ++ (⟨#[34]⟩ : ByteArray)), (by first | rfl | (simp; done) | (simp [*]; done)), H', ⟨by have := HK1.out; first | omega | exact Nat.le_refl _⟩, ⟨by repeat (first | (with_reducible first | exact HB.out | apply below_alloc | apply pw_below_drewN | apply below_drew1) | exact HB.out)⟩⟩
                · rw [if_neg c14] at H
                  exact absurd H (by simp)
              · rw [if_neg c13] at H
                exact absurd H (by simp)
            · replace c12 := Bool.eq_false_iff.mpr c12
              subst c12
              have H1 : (glebelaw8_IsctLong.j1 k1 (Go.bits .and .i64 a0 511) false a2 x7_1 ((⟨#[120, 32]⟩ : ByteArray) ++ x7_1)) = some r := by rw [if_neg (show ¬ (false = true) by decide)] at H; exact H
              clear H
              have H := H1
              clear H1
              have H' := Aside0.mk H
              clear H
              go_wp2
              go_meet
              case rel => exact ⟨_, ((⟨#[120, 32]⟩ : ByteArray) ++ x7_1), (by first | rfl | (simp; done) | (simp [*]; done)), H', ⟨by have := HK1.out; first | omega | exact Nat.le_refl _⟩, ⟨by repeat (first | (with_reducible first | exact HB.out | apply below_alloc | apply pw_below_drewN | apply below_drew1) | exact HB.out)⟩⟩
          case rest =>
            clear HC11
            try clear c1
            try clear p2
            try clear c4
            try clear c4b0
            try clear c5
            try clear c6
            try clear c6b0
            try clear c6b1
            try clear p6
            try clear c7
            try clear c7b0
            try clear c7b1
            try clear c7b2
            try clear c8
            try clear c8b0
            try clear c8b1
            try clear c8b2
            try clear c9
            try clear c9b0
            try clear c9b1
            try clear c9b2
            try clear c10
            try clear c10b0
            try clear c10b1
            try clear c10b2
            try clear c12
            try clear c13
            try clear c13b0
            try clear c13b1
            try clear c13b2
            try clear c14
            try clear c14b0
            try clear c14b1
            try clear c14b2
            try clear p2
            obtain ⟨kq, x9_10, rfl, HA, HJ10, HB⟩ := hcut
            cases kq with
            | zero => exact absurd HA.out (by simp [glebelaw8_IsctLong.j1])
            | succ kj10 =>
              have H := HA.out
              clear HA
              simp only [glebelaw8_IsctLong.j1] at H
              by_cases c15 : a2 = true
              · subst c15
                have H1 : (if 3 + x7_1.size ≤ 9223372036854775807 then (if 3 + x7_1.size + 1 ≤ 9223372036854775807 then ((isct_Tokens.f kj10 (bytesOf (((⟨#[120, 32, 34]⟩ : ByteArray) ++ x7_1) ++ (⟨#[9]⟩ : ByteArray)))).bind fun bt248 => (if (bt248.2.1 == 1 && (bt248.2.2 == (wrap64 (((((⟨#[120, 32, 34]⟩ : ByteArray) ++ x7_1) ++ (⟨#[9]⟩ : ByteArray)).size : Int) - 1)))) = true then ((glebelaw8_awake.f kj10).bind fun t254 => (some t254)) else (none))) else (none)) else (none)) = some r := by rw [if_pos rfl] at H; exact H
                clear H
                have H := H1
                clear H1
                by_cases c16 : 3 + x7_1.size ≤ 9223372036854775807
                · rw [if_pos c16] at H
                  have c16b0 := eq_true c16
                  have c16b1 : decide (3 + x7_1.size ≤ 9223372036854775807) = true := decide_eq_true c16
                  try have c16b2 : (9223372036854775807 < 3 + x7_1.size) = False := eq_false (Nat.not_lt.2 c16)
                  by_cases c17 : 3 + x7_1.size + 1 ≤ 9223372036854775807
                  · rw [if_pos c17] at H
                    have c17b0 := eq_true c17
                    have c17b1 : decide (3 + x7_1.size + 1 ≤ 9223372036854775807) = true := decide_eq_true c17
                    try have c17b2 : (9223372036854775807 < 3 + x7_1.size + 1) = False := eq_false (Nat.not_lt.2 c17)
                    obtain ⟨y245, hy245⟩ : ∃ y_ : List Int, y_ = (bytesOf (((⟨#[120, 32, 34]⟩ : ByteArray) ++ x7_1) ++ (⟨#[9]⟩ : ByteArray))) := ⟨_, rfl⟩
                    replace H : ((isct_Tokens.f kj10 y245).bind fun bt248 => (if (bt248.2.1 == 1 && (bt248.2.2 == (wrap64 (((((⟨#[120, 32, 34]⟩ : ByteArray) ++ x7_1) ++ (⟨#[9]⟩ : ByteArray)).size : Int) - 1)))) = true then ((glebelaw8_awake.f kj10).bind fun t254 => (some t254)) else (none))) = some r := by first | (rw [hy245]; with_reducible exact H) | (have H2_ := (Option.bind_some _ _).symm.trans H; rw [hy245]; with_reducible exact H2_) | (have H2_ := (Option.bind_some _ _).symm.trans H; with_reducible exact H2_) | with_reducible exact H | (rw [hy245]; exact H) | exact H
                    have Ny245 := Aside0.mk hy245
                    clear hy245
                    replace H := Option.bind_eq_some_iff.mp H
                    obtain ⟨⟨t248, t251, t252⟩, A180, H⟩ := H
                    replace H : (if (t251 == 1 && (t252 == (wrap64 (((((⟨#[120, 32, 34]⟩ : ByteArray) ++ x7_1) ++ (⟨#[9]⟩ : ByteArray)).size : Int) - 1)))) = true then ((glebelaw8_awake.f kj10).bind fun t254 => (some t254)) else (none)) = some r := H
                    have A18 := Aside0.mk A180
                    clear A180
                    by_cases c19 : (t251 == 1 && (t252 == (wrap64 (((((⟨#[120, 32, 34]⟩ : ByteArray) ++ x7_1) ++ (⟨#[9]⟩ : ByteArray)).size : Int) - 1)))) = true
                    · rw [if_pos c19] at H
                      have c19b0 : (t251 == 1 && (t252 == (wrap64 (((((⟨#[120, 32, 34]⟩ : ByteArray) ++ x7_1) ++ (⟨#[9]⟩ : ByteArray)).size : Int) - 1)))) = true := c19
                      (try (have c19b1 : decide (t251 = 1 && (t252 == (wrap64 (((((⟨#[120, 32, 34]⟩ : ByteArray) ++ x7_1) ++ (⟨#[9]⟩ : ByteArray)).size : Int) - 1)))) = true := by simpa using c19))
                      (try (have c19b2 : (t251 == 1 && (t252 == (wrap64 (((((⟨#[120, 32, 34]⟩ : ByteArray) ++ x7_1) ++ (⟨#[9]⟩ : ByteArray)).size : Int) - 1)))) = true := by simpa using c19))
                      have c19b9 : (t251 == 1 && (t252 == (3 + (x7_1.size : Int)))) = true := by
                        have h1_ : 3 + x7_1.size + 1 ≤ 9223372036854775807 := of_decide_eq_true (by first | (with_reducible assumption) | assumption)
                        have e_ : (wrap64 (((((⟨#[120, 32, 34]⟩ : ByteArray) ++ x7_1) ++ (⟨#[9]⟩ : ByteArray)).size : Int) - 1)) = 3 + (x7_1.size : Int) := by
                          simp only [ByteArray.size_append]
                          show wrap64 (((3 + x7_1.size + 1 : Nat) : Int) - 1) = _
                          unfold wrap64
                          omega
                        rw [← e_]
                        exact c19
                      clear c19
                      replace H := Option.bind_eq_some_iff.mp H
                      obtain ⟨t254, A200, H⟩ := H
                      replace H : (some t254) = some r := H
                      have A20 := Aside0.mk A200
                      clear A200
                      obtain rfl := Option.some.inj H
                      go_wp2_with (first | ((with_reducible refine gate_dst (N := 44) rfl ?_); (try (refine gate_guard (by rfl) ?_; dsimp only)); refine XW.V_bytes _ 5 rfl (N := 44) rfl 9 29 _ rfl (((⟨#[120, 32, 34]⟩ : ByteArray) ++ x7_1) ++ (⟨#[9]⟩ : ByteArray)) rfl Try.underlying9 Try.underlying29 Try.underlying5 (by have h_ : 3 + x7_1.size + 1 ≤ 9223372036854775807 := of_decide_eq_true (by first | (with_reducible assumption) | assumption); first | exact h_ | (simp only [ByteArray.size_append]; exact h_)) (ok := (fun _ => True)) (fun k_ hk => trivial) (Below.refl _ _) (Nat.le_refl _) ?_; intro v246 w21 ho22 hb hg_ hnew_; clear hg_ hnew_; (first | rw [← Ny245.out] at ho22 | (simp only [Int.reduceToNat] at ho22; rw [← Ny245.out] at ho22)); have n0_ := Aside0.mk (Kd.V_lower ho22 (below_size (by repeat (first | (with_reducible first | exact HB.out | apply below_alloc | apply pw_below_drewN | apply below_drew1) | exact HB.out)))); have n1_ := Aside0.mk (below_step (by repeat (first | (with_reducible first | exact HB.out | apply below_alloc | apply pw_below_drewN | apply below_drew1) | exact HB.out)) hb); clear HB; have HO247 := n0_; have HB := n1_; clear n0_ n1_; clear hb ho22; obtain ⟨Ao23, co23, eo23⟩ := Kd.V_slice HO247.out; subst eo23) | ((with_reducible refine gate_callee (f := 14) rfl ?_); refine goesL_ (some 45) rfl rfl Try.func14 (by kernel_rfl) rfl #[.slice Ao23 y245.length co23] rfl (by (try simp only [List.map_toArray, List.map_cons, List.map_nil]); first | done | rfl | (simp only [List.length_drop, List.length_take]; rfl)) ?_; (with_reducible refine (isct_Tokens.calls kj10 _ _ y245 t248 t251 t252 _ ?side1 ?side2 A18.out).mono ?_); (case side1 => repeat (first | exact (Kd.V_reads' HO247.out).2.2 | (with_reducible refine Kd.C_alloc ?_ _) | (with_reducible refine Kd.C_drewN ?_ _) | (with_reducible refine Kd.C_drew ?_))); (case side2 => exact (Kd.V_reads' HO247.out).2.1); rintro e w24 ⟨v249, rfl, ho0, hb⟩; refine ⟨_, rfl, ?_⟩; have n0_ := Aside0.mk (Kd.V_elder' (by (with_reducible repeat (first | apply Kd.V_alloc | apply Kd.V_drewN | apply Kd.V_drew)); exact HO247.out) (Kd.R_base ho0) hb); have n1_ := Aside0.mk (Kd.R_lower ho0 (below_size (by repeat (first | (with_reducible first | exact HB.out | apply below_alloc | apply pw_below_drewN | apply below_drew1) | exact HB.out)))); have n2_ := Aside0.mk (below_step (by repeat (first | (with_reducible first | exact HB.out | apply below_alloc | apply pw_below_drewN | apply below_drew1) | exact HB.out)) hb); clear HO247; clear HB; have HO247 := n0_; have HO250 := n1_; have HB := n2_; clear n0_ n1_ n2_; (try clear hb); (try clear hb2); (try clear hk); (try clear hi); (try clear ho0)) | ((with_reducible refine gate_dst (N := 11) rfl ?_); (try (refine gate_guard (by rfl) ?_; dsimp only)); refine box_event ?hg (N := 11) ?hd (cs := #[.int .i64 0, .int .i64 0]) (t := 26) ?hr ?_; (case hd => rfl); (case hg => rfl); (case hr => first | (go_simp; done) | (go_simp; rfl)); intro gb253 hg w25 hbox hb; have n0_ := Aside0.mk (Kd.V_below (Kd.V_elderB (by (with_reducible repeat (first | apply Kd.V_alloc | apply Kd.V_drewN | apply Kd.V_drew)); exact HO247.out) gb253 (Nat.le_of_eq hg.symm)) hb); have n1_ := Aside0.mk (Kd.R_below (by (with_reducible repeat (first | apply Kd.R_alloc | apply Kd.R_drewN | apply Kd.R_drew)); exact HO250.out) hb); have n2_ := Aside0.mk (below_step (by repeat (first | (with_reducible first | exact HB.out | apply below_alloc | apply pw_below_drewN | apply below_drew1) | exact HB.out)) hb); have n3_ := Aside0.mk (hbox); have n4_ := Aside0.mk ((by rw [hg]; exact (below_size (by repeat (first | (with_reducible first | exact HB.out | apply below_alloc | apply pw_below_drewN | apply below_drew1) | exact HB.out))) : w.heap.size ≤ gb253)); have n5_ := Aside0.mk ((by rw [hg]; exact (below_size (by repeat (first | (with_reducible first | exact HB.out | apply below_alloc | apply pw_below_drewN | apply below_drew1) | exact HB.out))) : w.heap.size ≤ gb253)); clear HO247; clear HO250; clear HB; have HO247 := n0_; have HO250 := n1_; have HB := n2_; have BK253 := n3_; have GW253 := n4_; have GE253 := n5_; clear n0_ n1_ n2_ n3_ n4_ n5_; clear hb hbox hg; have hcz26_0 : w25.cell? ⟨gb253, 0, none⟩ = some (.int .i64 0) := (blk_cell BK253.out 0).trans rfl; have hcz26_1 : w25.cell? ⟨gb253, 1, none⟩ = some (.int .i64 0) := (blk_cell BK253.out 1).trans rfl; have hfz26_0 := blk_frozen BK253.out 0; have hfz26_1 := blk_frozen BK253.out 1) | (go_at_call 15; (with_reducible refine (glebelaw8_awake.calls kj10  t254 _ A20.out).mono ?_); rintro e w27 ⟨rfl, hb⟩; have n0_ := Aside0.mk (Kd.V_below (by (with_reducible repeat (first | apply Kd.V_alloc | apply Kd.V_drewN | apply Kd.V_drew)); exact (Kd.V_mono (Kd.V_far (p := ⟨gb253, 1, none⟩) (Kd.V_far (p := ⟨gb253, 0, none⟩) (Kd.V_mono HO247.out (fun k_ hk => (⟨hk, hk.2⟩ : _ ∧ k_ ≠ gb253))) (fun _ hk => hk.2) (.int .i64 t251)) (fun _ hk => hk.2) (.int .i64 t252)) (fun _ h_ => h_.1))) hb); have n1_ := Aside0.mk (Kd.R_below (by (with_reducible repeat (first | apply Kd.R_alloc | apply Kd.R_drewN | apply Kd.R_drew)); exact (Kd.R_mono (Kd.R_far (p := ⟨gb253, 1, none⟩) (Kd.R_far (p := ⟨gb253, 0, none⟩) (Kd.R_types HO250.out BK253.out (by decide)) (fun _ hk => hk.2) (.int .i64 t251)) (fun _ hk => hk.2) (.int .i64 t252)) (fun _ h_ => h_.1))) hb); have n2_ := Aside0.mk (blk_below (g := gb253) (o := .cells #[.int .i64 t251, .int .i64 t252] 26 (0, 0)) (by (with_reducible repeat (first | refine blk_drewN ?_ _ | refine blk_drew ?_ | refine blk_alloc ?_ _)); refine blk_put (cs := #[.int .i64 t251, .int .i64 0]) ?_ 1 _ rfl; (with_reducible repeat (first | refine blk_drewN ?_ _ | refine blk_drew ?_ | refine blk_alloc ?_ _)); refine blk_put (cs := #[.int .i64 0, .int .i64 0]) ?_ 0 _ rfl; (with_reducible repeat (first | refine blk_drewN ?_ _ | refine blk_drew ?_ | refine blk_alloc ?_ _)); exact BK253.out) hb); have n3_ := Aside0.mk (below_step (by repeat (first | (with_reducible first | exact HB.out | apply below_alloc | apply pw_below_drewN | apply below_drew1 | refine below_set ?_ GE253.out) | exact HB.out)) hb); clear HO247; clear HO250; clear BK253; clear HB; have HO247 := n0_; have HO250 := n1_; have BK253 := n2_; have HB := n3_; clear n0_ n1_ n2_ n3_; (try clear hb); (try clear hb2); (try clear hk); (try clear hi)))
                      go_ret
                      exact ⟨by first | rfl | (simp [errW_none, errW_some] <;> rfl) | (simp [*, errW_none, errW_some] <;> rfl), by repeat (first | (with_reducible first | exact HB.out | apply below_alloc | apply pw_below_drewN | apply below_drew1 | refine below_set ?_ GE253.out) | exact HB.out)⟩
                    · rw [if_neg c19] at H
                      exact absurd H (by simp)
                  · rw [if_neg c17] at H
                    exact absurd H (by simp)
                · rw [if_neg c16] at H
                  exact absurd H (by simp)
              · replace c15 := Bool.eq_false_iff.mpr c15
                subst c15
                have H1 : (if x9_10.size ≤ 9223372036854775807 then ((isct_Tokens.f kj10 (bytesOf x9_10)).bind fun bt258 => (if (Go.bits .and .i64 a0 511) > 255 then (if (bt258.2.1 == 2 && (bt258.2.2 == 2)) = true then (if (bt258.1.length : Int) = 0 then ((glebelaw8_awake.f kj10).bind fun t264 => (some t264)) else (none)) else (none)) else (if a1 = true then (if (bt258.2.1 == 0 && (bt258.2.2 == 0)) = true then (if (bt258.1.length : Int) = 2 then (if 1 < (bt258.1.length : Int) then (if (((rd_T33 bt258.1 1).f1).size : Int) = (Go.bits .and .i64 a0 511) then ((glebelaw8_awake.f kj10).bind fun t266 => (some t266)) else (none)) else (none)) else (none)) else (none)) else (if (Go.bits .and .i64 a0 511) = 0 then (if (bt258.2.1 == 0 && (bt258.2.2 == 0)) = true then (if (bt258.1.length : Int) = 1 then ((glebelaw8_awake.f kj10).bind fun t267 => (some t267)) else (none)) else (none)) else (if (bt258.2.1 == 0 && (bt258.2.2 == 0)) = true then (if (bt258.1.length : Int) = 2 then (if 1 < (bt258.1.length : Int) then (if (((rd_T33 bt258.1 1).f1).size : Int) = (Go.bits .and .i64 a0 511) then ((glebelaw8_awake.f kj10).bind fun t269 => (some t269)) else (none)) else (none)) else (none)) else (none)))))) else (none)) = some r := by rw [if_neg (show ¬ (false = true) by decide)] at H; exact H
                clear H
                have H := H1
                clear H1
                by_cases c28 : x9_10.size ≤ 9223372036854775807
                · rw [if_pos c28] at H
                  have c28b0 := eq_true c28
                  have c28b1 : decide (x9_10.size ≤ 9223372036854775807) = true := decide_eq_true c28
                  try have c28b2 : (9223372036854775807 < x9_10.size) = False := eq_false (Nat.not_lt.2 c28)
                  clear c28
                  obtain ⟨y255, hy255⟩ : ∃ y_ : List Int, y_ = (bytesOf x9_10) := ⟨_, rfl⟩
                  replace H : ((isct_Tokens.f kj10 y255).bind fun bt258 => (if (Go.bits .and .i64 a0 511) > 255 then (if (bt258.2.1 == 2 && (bt258.2.2 == 2)) = true then (if (bt258.1.length : Int) = 0 then ((glebelaw8_awake.f kj10).bind fun t264 => (some t264)) else (none)) else (none)) else (if a1 = true then (if (bt258.2.1 == 0 && (bt258.2.2 == 0)) = true then (if (bt258.1.length : Int) = 2 then (if 1 < (bt258.1.length : Int) then (if (((rd_T33 bt258.1 1).f1).size : Int) = (Go.bits .and .i64 a0 511) then ((glebelaw8_awake.f kj10).bind fun t266 => (some t266)) else (none)) else (none)) else (none)) else (none)) else (if (Go.bits .and .i64 a0 511) = 0 then (if (bt258.2.1 == 0 && (bt258.2.2 == 0)) = true then (if (bt258.1.length : Int) = 1 then ((glebelaw8_awake.f kj10).bind fun t267 => (some t267)) else (none)) else (none)) else (if (bt258.2.1 == 0 && (bt258.2.2 == 0)) = true then (if (bt258.1.length : Int) = 2 then (if 1 < (bt258.1.length : Int) then (if (((rd_T33 bt258.1 1).f1).size : Int) = (Go.bits .and .i64 a0 511) then ((glebelaw8_awake.f kj10).bind fun t269 => (some t269)) else (none)) else (none)) else (none)) else (none)))))) = some r := by first | (rw [hy255]; with_reducible exact H) | (have H2_ := (Option.bind_some _ _).symm.trans H; rw [hy255]; with_reducible exact H2_) | (have H2_ := (Option.bind_some _ _).symm.trans H; with_reducible exact H2_) | with_reducible exact H | (rw [hy255]; exact H) | exact H
                  have Ny255 := Aside0.mk hy255
                  clear hy255
                  replace H := Option.bind_eq_some_iff.mp H
                  obtain ⟨⟨t258, t261, t262⟩, A290, H⟩ := H
                  replace H : (if (Go.bits .and .i64 a0 511) > 255 then (if (t261 == 2 && (t262 == 2)) = true then (if (t258.length : Int) = 0 then ((glebelaw8_awake.f kj10).bind fun t264 => (some t264)) else (none)) else (none)) else (if a1 = true then (if (t261 == 0 && (t262 == 0)) = true then (if (t258.length : Int) = 2 then (if 1 < (t258.length : Int) then (if (((rd_T33 t258 1).f1).size : Int) = (Go.bits .and .i64 a0 511) then ((glebelaw8_awake.f kj10).bind fun t266 => (some t266)) else (none)) else (none)) else (none)) else (none)) else (if (Go.bits .and .i64 a0 511) = 0 then (if (t261 == 0 && (t262 == 0)) = true then (if (t258.length : Int) = 1 then ((glebelaw8_awake.f kj10).bind fun t267 => (some t267)) else (none)) else (none)) else (if (t261 == 0 && (t262 == 0)) = true then (if (t258.length : Int) = 2 then (if 1 < (t258.length : Int) then (if (((rd_T33 t258 1).f1).size : Int) = (Go.bits .and .i64 a0 511) then ((glebelaw8_awake.f kj10).bind fun t269 => (some t269)) else (none)) else (none)) else (none)) else (none))))) = some r := H
                  have A29 := Aside0.mk A290
                  clear A290
                  by_cases c30 : (Go.bits .and .i64 a0 511) > 255
                  · rw [if_pos c30] at H
                    have c30b0 : decide (255 < (Go.bits .and .i64 a0 511)) = true := decide_eq_true c30
                    clear c30
                    by_cases c31 : (t261 == 2 && (t262 == 2)) = true
                    · rw [if_pos c31] at H
                      have c31b0 : (t261 == 2 && (t262 == 2)) = true := c31
                      (try (have c31b1 : decide (t261 = 2 && (t262 == 2)) = true := by simpa using c31))
                      (try (have c31b2 : (t261 == 2 && (t262 == 2)) = true := by simpa using c31))
                      clear c31
                      by_cases c32 : (t258.length : Int) = 0
                      · rw [if_pos c32] at H
                        have c32b0 : ((t258.length : Int) == 0) = true := beq_iff_eq.mpr c32
                        have c32b1 : ((t258.length : Int) != 0) = false := bne_eq_false_iff_eq.mpr c32
                        clear c32
                        replace H := Option.bind_eq_some_iff.mp H
                        obtain ⟨t264, A330, H⟩ := H
                        replace H : (some t264) = some r := H
                        have A33 := Aside0.mk A330
                        clear A330
                        obtain rfl := Option.some.inj H
                        go_wp2_with (first | ((with_reducible refine gate_dst (N := 59) rfl ?_); (try (refine gate_guard (by rfl) ?_; dsimp only)); refine XW.V_bytes _ 5 rfl (N := 59) rfl 9 29 _ rfl x9_10 rfl Try.underlying9 Try.underlying29 Try.underlying5 (by have h_ : x9_10.size ≤ 9223372036854775807 := of_decide_eq_true (by first | (with_reducible assumption) | assumption); first | exact h_ | (simp only [ByteArray.size_append]; exact h_)) (ok := (fun _ => True)) (fun k_ hk => trivial) (Below.refl _ _) (Nat.le_refl _) ?_; intro v256 w34 ho35 hb hg_ hnew_; clear hg_ hnew_; (first | rw [← Ny255.out] at ho35 | (simp only [Int.reduceToNat] at ho35; rw [← Ny255.out] at ho35)); have n0_ := Aside0.mk (Kd.V_lower ho35 (below_size (by repeat (first | (with_reducible first | exact HB.out | apply below_alloc | apply pw_below_drewN | apply below_drew1) | exact HB.out)))); have n1_ := Aside0.mk (below_step (by repeat (first | (with_reducible first | exact HB.out | apply below_alloc | apply pw_below_drewN | apply below_drew1) | exact HB.out)) hb); clear HB; have HO257 := n0_; have HB := n1_; clear n0_ n1_; clear hb ho35; obtain ⟨Ao36, co36, eo36⟩ := Kd.V_slice HO257.out; subst eo36) | ((with_reducible refine gate_callee (f := 14) rfl ?_); refine goesL_ (some 60) rfl rfl Try.func14 (by kernel_rfl) rfl #[.slice Ao36 y255.length co36] rfl (by (try simp only [List.map_toArray, List.map_cons, List.map_nil]); first | done | rfl | (simp only [List.length_drop, List.length_take]; rfl)) ?_; (with_reducible refine (isct_Tokens.calls kj10 _ _ y255 t258 t261 t262 _ ?side1 ?side2 A29.out).mono ?_); (case side1 => repeat (first | exact (Kd.V_reads' HO257.out).2.2 | (with_reducible refine Kd.C_alloc ?_ _) | (with_reducible refine Kd.C_drewN ?_ _) | (with_reducible refine Kd.C_drew ?_))); (case side2 => exact (Kd.V_reads' HO257.out).2.1); rintro e w37 ⟨v259, rfl, ho0, hb⟩; refine ⟨_, rfl, ?_⟩; have n0_ := Aside0.mk (Kd.V_elder' (by (with_reducible repeat (first | apply Kd.V_alloc | apply Kd.V_drewN | apply Kd.V_drew)); exact HO257.out) (Kd.R_base ho0) hb); have n1_ := Aside0.mk (Kd.R_lower ho0 (below_size (by repeat (first | (with_reducible first | exact HB.out | apply below_alloc | apply pw_below_drewN | apply below_drew1) | exact HB.out)))); have n2_ := Aside0.mk (below_step (by repeat (first | (with_reducible first | exact HB.out | apply below_alloc | apply pw_below_drewN | apply below_drew1) | exact HB.out)) hb); clear HO257; clear HB; have HO257 := n0_; have HO260 := n1_; have HB := n2_; clear n0_ n1_ n2_; (try clear hb); (try clear hb2); (try clear hk); (try clear hi); (try clear ho0)) | ((with_reducible refine gate_dst (N := 13) rfl ?_); (try (refine gate_guard (by rfl) ?_; dsimp only)); refine box_event ?hg (N := 13) ?hd (cs := #[.int .i64 0, .int .i64 0]) (t := 26) ?hr ?_; (case hd => rfl); (case hg => rfl); (case hr => first | (go_simp; done) | (go_simp; rfl)); intro gb263 hg w38 hbox hb; have n0_ := Aside0.mk (Kd.V_below (Kd.V_elderB (by (with_reducible repeat (first | apply Kd.V_alloc | apply Kd.V_drewN | apply Kd.V_drew)); exact HO257.out) gb263 (Nat.le_of_eq hg.symm)) hb); have n1_ := Aside0.mk (Kd.R_below (by (with_reducible repeat (first | apply Kd.R_alloc | apply Kd.R_drewN | apply Kd.R_drew)); exact HO260.out) hb); have n2_ := Aside0.mk (below_step (by repeat (first | (with_reducible first | exact HB.out | apply below_alloc | apply pw_below_drewN | apply below_drew1) | exact HB.out)) hb); have n3_ := Aside0.mk (hbox); have n4_ := Aside0.mk ((by rw [hg]; exact (below_size (by repeat (first | (with_reducible first | exact HB.out | apply below_alloc | apply pw_below_drewN | apply below_drew1) | exact HB.out))) : w.heap.size ≤ gb263)); have n5_ := Aside0.mk ((by rw [hg]; exact (below_size (by repeat (first | (with_reducible first | exact HB.out | apply below_alloc | apply pw_below_drewN | apply below_drew1) | exact HB.out))) : w.heap.size ≤ gb263)); clear HO257; clear HO260; clear HB; have HO257 := n0_; have HO260 := n1_; have HB := n2_; have BK263 := n3_; have GW263 := n4_; have GE263 := n5_; clear n0_ n1_ n2_ n3_ n4_ n5_; clear hb hbox hg; have hcz39_0 : w38.cell? ⟨gb263, 0, none⟩ = some (.int .i64 0) := (blk_cell BK263.out 0).trans rfl; have hcz39_1 : w38.cell? ⟨gb263, 1, none⟩ = some (.int .i64 0) := (blk_cell BK263.out 1).trans rfl; have hfz39_0 := blk_frozen BK263.out 0; have hfz39_1 := blk_frozen BK263.out 1; obtain ⟨Ao40, co40, eo40⟩ := Kd.R_slice HO260.out; subst eo40) | (go_at_call 15; (with_reducible refine (glebelaw8_awake.calls kj10  t264 _ A33.out).mono ?_); rintro e w41 ⟨rfl, hb⟩; have n0_ := Aside0.mk (Kd.V_below (by (with_reducible repeat (first | apply Kd.V_alloc | apply Kd.V_drewN | apply Kd.V_drew)); exact (Kd.V_mono (Kd.V_far (p := ⟨gb263, 1, none⟩) (Kd.V_far (p := ⟨gb263, 0, none⟩) (Kd.V_mono HO257.out (fun k_ hk => (⟨hk, hk.2⟩ : _ ∧ k_ ≠ gb263))) (fun _ hk => hk.2) (.int .i64 t261)) (fun _ hk => hk.2) (.int .i64 t262)) (fun _ h_ => h_.1))) hb); have n1_ := Aside0.mk (Kd.R_below (by (with_reducible repeat (first | apply Kd.R_alloc | apply Kd.R_drewN | apply Kd.R_drew)); exact (Kd.R_mono (Kd.R_far (p := ⟨gb263, 1, none⟩) (Kd.R_far (p := ⟨gb263, 0, none⟩) (Kd.R_types HO260.out BK263.out (by decide)) (fun _ hk => hk.2) (.int .i64 t261)) (fun _ hk => hk.2) (.int .i64 t262)) (fun _ h_ => h_.1))) hb); have n2_ := Aside0.mk (blk_below (g := gb263) (o := .cells #[.int .i64 t261, .int .i64 t262] 26 (0, 0)) (by (with_reducible repeat (first | refine blk_drewN ?_ _ | refine blk_drew ?_ | refine blk_alloc ?_ _)); refine blk_put (cs := #[.int .i64 t261, .int .i64 0]) ?_ 1 _ rfl; (with_reducible repeat (first | refine blk_drewN ?_ _ | refine blk_drew ?_ | refine blk_alloc ?_ _)); refine blk_put (cs := #[.int .i64 0, .int .i64 0]) ?_ 0 _ rfl; (with_reducible repeat (first | refine blk_drewN ?_ _ | refine blk_drew ?_ | refine blk_alloc ?_ _)); exact BK263.out) hb); have n3_ := Aside0.mk (below_step (by repeat (first | (with_reducible first | exact HB.out | apply below_alloc | apply pw_below_drewN | apply below_drew1 | refine below_set ?_ GE263.out) | exact HB.out)) hb); clear HO257; clear HO260; clear BK263; clear HB; have HO257 := n0_; have HO260 := n1_; have BK263 := n2_; have HB := n3_; clear n0_ n1_ n2_ n3_; (try clear hb); (try clear hb2); (try clear hk); (try clear hi)))
                        go_ret
                        exact ⟨by first | rfl | (simp [errW_none, errW_some] <;> rfl) | (simp [*, errW_none, errW_some] <;> rfl), by repeat (first | (with_reducible first | exact HB.out | apply below_alloc | apply pw_below_drewN | apply below_drew1 | refine below_set ?_ GE263.out) | exact HB.out)⟩
                      · rw [if_neg c32] at H
                        exact absurd H (by simp)
                    · rw [if_neg c31] at H
                      exact absurd H (by simp)
                  · rw [if_neg c30] at H
                    have c30b0 : decide (255 < (Go.bits .and .i64 a0 511)) = false := decide_eq_false c30
                    clear c30
                    by_cases c42 : a1 = true
                    · subst c42
                      have H1 : (if (t261 == 0 && (t262 == 0)) = true then (if (t258.length : Int) = 2 then (if 1 < (t258.length : Int) then (if (((rd_T33 t258 1).f1).size : Int) = (Go.bits .and .i64 a0 511) then ((glebelaw8_awake.f kj10).bind fun t266 => (some t266)) else (none)) else (none)) else (none)) else (none)) = some r := by rw [if_pos rfl] at H; exact H
                      clear H
                      have H := H1
                      clear H1
                      by_cases c43 : (t261 == 0 && (t262 == 0)) = true
                      · rw [if_pos c43] at H
                        have c43b0 : (t261 == 0 && (t262 == 0)) = true := c43
                        (try (have c43b1 : decide (t261 = 0 && (t262 == 0)) = true := by simpa using c43))
                        (try (have c43b2 : (t261 == 0 && (t262 == 0)) = true := by simpa using c43))
                        clear c43
                        by_cases c44 : (t258.length : Int) = 2
                        · rw [if_pos c44] at H
                          have c44b0 : ((t258.length : Int) == 2) = true := beq_iff_eq.mpr c44
                          have c44b1 : ((t258.length : Int) != 2) = false := bne_eq_false_iff_eq.mpr c44
                          clear c44
                          by_cases c45 : 1 < (t258.length : Int)
                          · rw [if_pos c45] at H
                            have c45b0 : decide (1 < (t258.length : Int)) = true := decide_eq_true c45
                            have c45b1 : decide (1 < t258.length) = true := decide_eq_true (by omega)
                            clear c45
                            by_cases c46 : (((rd_T33 t258 1).f1).size : Int) = (Go.bits .and .i64 a0 511)
                            · rw [if_pos c46] at H
                              have c46b0 : ((((rd_T33 t258 1).f1).size : Int) == (Go.bits .and .i64 a0 511)) = true := beq_iff_eq.mpr c46
                              have c46b1 : ((((rd_T33 t258 1).f1).size : Int) != (Go.bits .and .i64 a0 511)) = false := bne_eq_false_iff_eq.mpr c46
                              clear c46
                              replace H := Option.bind_eq_some_iff.mp H
                              obtain ⟨t266, A470, H⟩ := H
                              replace H : (some t266) = some r := H
                              have A47 := Aside0.mk A470
                              clear A470
                              obtain rfl := Option.some.inj H
                              go_wp2_with (first | ((with_reducible refine gate_dst (N := 59) rfl ?_); (try (refine gate_guard (by rfl) ?_; dsimp only)); refine XW.V_bytes _ 5 rfl (N := 59) rfl 9 29 _ rfl x9_10 rfl Try.underlying9 Try.underlying29 Try.underlying5 (by have h_ : x9_10.size ≤ 9223372036854775807 := of_decide_eq_true (by first | (with_reducible assumption) | assumption); first | exact h_ | (simp only [ByteArray.size_append]; exact h_)) (ok := (fun _ => True)) (fun k_ hk => trivial) (Below.refl _ _) (Nat.le_refl _) ?_; intro v256 w48 ho49 hb hg_ hnew_; clear hg_ hnew_; (first | rw [← Ny255.out] at ho49 | (simp only [Int.reduceToNat] at ho49; rw [← Ny255.out] at ho49)); have n0_ := Aside0.mk (Kd.V_lower ho49 (below_size (by repeat (first | (with_reducible first | exact HB.out | apply below_alloc | apply pw_below_drewN | apply below_drew1) | exact HB.out)))); have n1_ := Aside0.mk (below_step (by repeat (first | (with_reducible first | exact HB.out | apply below_alloc | apply pw_below_drewN | apply below_drew1) | exact HB.out)) hb); clear HB; have HO257 := n0_; have HB := n1_; clear n0_ n1_; clear hb ho49; obtain ⟨Ao50, co50, eo50⟩ := Kd.V_slice HO257.out; subst eo50) | ((with_reducible refine gate_callee (f := 14) rfl ?_); refine goesL_ (some 60) rfl rfl Try.func14 (by kernel_rfl) rfl #[.slice Ao50 y255.length co50] rfl (by (try simp only [List.map_toArray, List.map_cons, List.map_nil]); first | done | rfl | (simp only [List.length_drop, List.length_take]; rfl)) ?_; (with_reducible refine (isct_Tokens.calls kj10 _ _ y255 t258 t261 t262 _ ?side1 ?side2 A29.out).mono ?_); (case side1 => repeat (first | exact (Kd.V_reads' HO257.out).2.2 | (with_reducible refine Kd.C_alloc ?_ _) | (with_reducible refine Kd.C_drewN ?_ _) | (with_reducible refine Kd.C_drew ?_))); (case side2 => exact (Kd.V_reads' HO257.out).2.1); rintro e w51 ⟨v259, rfl, ho0, hb⟩; refine ⟨_, rfl, ?_⟩; have n0_ := Aside0.mk (Kd.V_elder' (by (with_reducible repeat (first | apply Kd.V_alloc | apply Kd.V_drewN | apply Kd.V_drew)); exact HO257.out) (Kd.R_base ho0) hb); have n1_ := Aside0.mk (Kd.R_lower ho0 (below_size (by repeat (first | (with_reducible first | exact HB.out | apply below_alloc | apply pw_below_drewN | apply below_drew1) | exact HB.out)))); have n2_ := Aside0.mk (below_step (by repeat (first | (with_reducible first | exact HB.out | apply below_alloc | apply pw_below_drewN | apply below_drew1) | exact HB.out)) hb); clear HO257; clear HB; have HO257 := n0_; have HO260 := n1_; have HB := n2_; clear n0_ n1_ n2_; (try clear hb); (try clear hb2); (try clear hk); (try clear hi); (try clear ho0)) | ((with_reducible refine gate_dst (N := 13) rfl ?_); (try (refine gate_guard (by rfl) ?_; dsimp only)); refine box_event ?hg (N := 13) ?hd (cs := #[.int .i64 0, .int .i64 0]) (t := 26) ?hr ?_; (case hd => rfl); (case hg => rfl); (case hr => first | (go_simp; done) | (go_simp; rfl)); intro gb263 hg w52 hbox hb; have n0_ := Aside0.mk (Kd.V_below (Kd.V_elderB (by (with_reducible repeat (first | apply Kd.V_alloc | apply Kd.V_drewN | apply Kd.V_drew)); exact HO257.out) gb263 (Nat.le_of_eq hg.symm)) hb); have n1_ := Aside0.mk (Kd.R_below (by (with_reducible repeat (first | apply Kd.R_alloc | apply Kd.R_drewN | apply Kd.R_drew)); exact HO260.out) hb); have n2_ := Aside0.mk (below_step (by repeat (first | (with_reducible first | exact HB.out | apply below_alloc | apply pw_below_drewN | apply below_drew1) | exact HB.out)) hb); have n3_ := Aside0.mk (hbox); have n4_ := Aside0.mk ((by rw [hg]; exact (below_size (by repeat (first | (with_reducible first | exact HB.out | apply below_alloc | apply pw_below_drewN | apply below_drew1) | exact HB.out))) : w.heap.size ≤ gb263)); have n5_ := Aside0.mk ((by rw [hg]; exact (below_size (by repeat (first | (with_reducible first | exact HB.out | apply below_alloc | apply pw_below_drewN | apply below_drew1) | exact HB.out))) : w.heap.size ≤ gb263)); clear HO257; clear HO260; clear HB; have HO257 := n0_; have HO260 := n1_; have HB := n2_; have BK263 := n3_; have GW263 := n4_; have GE263 := n5_; clear n0_ n1_ n2_ n3_ n4_ n5_; clear hb hbox hg; have hcz53_0 : w52.cell? ⟨gb263, 0, none⟩ = some (.int .i64 0) := (blk_cell BK263.out 0).trans rfl; have hcz53_1 : w52.cell? ⟨gb263, 1, none⟩ = some (.int .i64 0) := (blk_cell BK263.out 1).trans rfl; have hfz53_0 := blk_frozen BK263.out 0; have hfz53_1 := blk_frozen BK263.out 1; obtain ⟨Ao54, co54, eo54⟩ := Kd.R_slice HO260.out; subst eo54; have p265 : 0 ≤ (1 : Int) := (by omega); have q265 : 1 < (t258.length : Int) := of_decide_eq_true (by first | (with_reducible assumption) | assumption); obtain ⟨ad265, e265, hx265_0, hx265_1, hx265_2⟩ := at_T33 (Kd.R_reads' HO260.out).2.2 1 p265 q265; cases e265; (try simp only [show (1 : Int).toNat = 1 from rfl, Nat.reduceMul, Nat.reduceEqDiff, Go.Addr.add, ↓reduceIte] at hx265_0); (try simp only [show (1 : Int).toNat = 1 from rfl, Nat.reduceMul, Nat.reduceEqDiff, Go.Addr.add, ↓reduceIte] at hx265_1); (try simp only [show (1 : Int).toNat = 1 from rfl, Nat.reduceMul, Nat.reduceEqDiff, Go.Addr.add, ↓reduceIte] at hx265_2); have qi265 : (1 < t258.length) = True := eq_true (by omega); (try rw [show ((1 : Int)).toNat = 1 from rfl] at hx265_0); (try rw [show 1 * 3 = 3 from rfl] at hx265_0); (try rw [show ((1 : Int)).toNat = 1 from rfl] at hx265_1); (try rw [show 1 * 3 = 3 from rfl] at hx265_1); (try rw [show ((1 : Int)).toNat = 1 from rfl] at hx265_2); (try rw [show 1 * 3 = 3 from rfl] at hx265_2); have hn265_0 : ad265.block ≠ gb263 := Kd.own_blk (Kd.R_ne HO260.out BK263.out (by decide)); have hn265_1 : ad265.block ≠ gb263 := Kd.own_blk (Kd.R_ne HO260.out BK263.out (by decide)); replace hx265_0 := (cell_far (p := ⟨gb263, 0, none⟩) (by first | (rw [add_block]; exact hn265_0) | (show (Addr.add _ _).block ≠ _; rw [add_block]; exact hn265_0) | exact hn265_0) (.int .i64 t261)).trans hx265_0; replace hx265_1 := (cell_far (p := ⟨gb263, 0, none⟩) (by first | (rw [add_block]; exact hn265_0) | (show (Addr.add _ _).block ≠ _; rw [add_block]; exact hn265_0) | exact hn265_0) (.int .i64 t261)).trans hx265_1; replace hx265_2 := (cell_far (p := ⟨gb263, 0, none⟩) (by first | (rw [add_block]; exact hn265_0) | (show (Addr.add _ _).block ≠ _; rw [add_block]; exact hn265_0) | exact hn265_0) (.int .i64 t261)).trans hx265_2; replace hx265_0 := (cell_far (p := ⟨gb263, 1, none⟩) (by first | (rw [add_block]; exact hn265_1) | (show (Addr.add _ _).block ≠ _; rw [add_block]; exact hn265_1) | exact hn265_1) (.int .i64 t262)).trans hx265_0; replace hx265_1 := (cell_far (p := ⟨gb263, 1, none⟩) (by first | (rw [add_block]; exact hn265_1) | (show (Addr.add _ _).block ≠ _; rw [add_block]; exact hn265_1) | exact hn265_1) (.int .i64 t262)).trans hx265_1; replace hx265_2 := (cell_far (p := ⟨gb263, 1, none⟩) (by first | (rw [add_block]; exact hn265_1) | (show (Addr.add _ _).block ≠ _; rw [add_block]; exact hn265_1) | exact hn265_1) (.int .i64 t262)).trans hx265_2; clear hn265_0; clear hn265_1; replace p265 := eq_true p265; replace q265 := eq_true q265) | (go_at_call 15; (with_reducible refine (glebelaw8_awake.calls kj10  t266 _ A47.out).mono ?_); rintro e w55 ⟨rfl, hb⟩; have n0_ := Aside0.mk (Kd.V_below (by (with_reducible repeat (first | apply Kd.V_alloc | apply Kd.V_drewN | apply Kd.V_drew)); exact (Kd.V_mono (Kd.V_far (p := ⟨gb263, 1, none⟩) (Kd.V_far (p := ⟨gb263, 0, none⟩) (Kd.V_mono HO257.out (fun k_ hk => (⟨hk, hk.2⟩ : _ ∧ k_ ≠ gb263))) (fun _ hk => hk.2) (.int .i64 t261)) (fun _ hk => hk.2) (.int .i64 t262)) (fun _ h_ => h_.1))) hb); have n1_ := Aside0.mk (Kd.R_below (by (with_reducible repeat (first | apply Kd.R_alloc | apply Kd.R_drewN | apply Kd.R_drew)); exact (Kd.R_mono (Kd.R_far (p := ⟨gb263, 1, none⟩) (Kd.R_far (p := ⟨gb263, 0, none⟩) (Kd.R_types HO260.out BK263.out (by decide)) (fun _ hk => hk.2) (.int .i64 t261)) (fun _ hk => hk.2) (.int .i64 t262)) (fun _ h_ => h_.1))) hb); have n2_ := Aside0.mk (blk_below (g := gb263) (o := .cells #[.int .i64 t261, .int .i64 t262] 26 (0, 0)) (by (with_reducible repeat (first | refine blk_drewN ?_ _ | refine blk_drew ?_ | refine blk_alloc ?_ _)); refine blk_put (cs := #[.int .i64 t261, .int .i64 0]) ?_ 1 _ rfl; (with_reducible repeat (first | refine blk_drewN ?_ _ | refine blk_drew ?_ | refine blk_alloc ?_ _)); refine blk_put (cs := #[.int .i64 0, .int .i64 0]) ?_ 0 _ rfl; (with_reducible repeat (first | refine blk_drewN ?_ _ | refine blk_drew ?_ | refine blk_alloc ?_ _)); exact BK263.out) hb); have n3_ := Aside0.mk (below_step (by repeat (first | (with_reducible first | exact HB.out | apply below_alloc | apply pw_below_drewN | apply below_drew1 | refine below_set ?_ GE263.out) | exact HB.out)) hb); clear HO257; clear HO260; clear BK263; clear HB; have HO257 := n0_; have HO260 := n1_; have BK263 := n2_; have HB := n3_; clear n0_ n1_ n2_ n3_; (try clear hb); (try clear hb2); (try clear hk); (try clear hi)))
                              go_ret
                              exact ⟨by first | rfl | (simp [errW_none, errW_some] <;> rfl) | (simp [*, errW_none, errW_some] <;> rfl), by repeat (first | (with_reducible first | exact HB.out | apply below_alloc | apply pw_below_drewN | apply below_drew1 | refine below_set ?_ GE263.out) | exact HB.out)⟩
                            · rw [if_neg c46] at H
                              exact absurd H (by simp)
                          · rw [if_neg c45] at H
                            exact absurd H (by simp)
                        · rw [if_neg c44] at H
                          exact absurd H (by simp)
                      · rw [if_neg c43] at H
                        exact absurd H (by simp)
                    · replace c42 := Bool.eq_false_iff.mpr c42
                      subst c42
                      have H1 : (if (Go.bits .and .i64 a0 511) = 0 then (if (t261 == 0 && (t262 == 0)) = true then (if (t258.length : Int) = 1 then ((glebelaw8_awake.f kj10).bind fun t267 => (some t267)) else (none)) else (none)) else (if (t261 == 0 && (t262 == 0)) = true then (if (t258.length : Int) = 2 then (if 1 < (t258.length : Int) then (if (((rd_T33 t258 1).f1).size : Int) = (Go.bits .and .i64 a0 511) then ((glebelaw8_awake.f kj10).bind fun t269 => (some t269)) else (none)) else (none)) else (none)) else (none))) = some r := by rw [if_neg (show ¬ (false = true) by decide)] at H; exact H
                      clear H
                      have H := H1
                      clear H1
                      by_cases c56 : (Go.bits .and .i64 a0 511) = 0
                      · rw [if_pos c56] at H
                        have c56b0 : ((Go.bits .and .i64 a0 511) == 0) = true := beq_iff_eq.mpr c56
                        have c56b1 : ((Go.bits .and .i64 a0 511) != 0) = false := bne_eq_false_iff_eq.mpr c56
                        clear c56
                        by_cases c57 : (t261 == 0 && (t262 == 0)) = true
                        · rw [if_pos c57] at H
                          have c57b0 : (t261 == 0 && (t262 == 0)) = true := c57
                          (try (have c57b1 : decide (t261 = 0 && (t262 == 0)) = true := by simpa using c57))
                          (try (have c57b2 : (t261 == 0 && (t262 == 0)) = true := by simpa using c57))
                          clear c57
                          by_cases c58 : (t258.length : Int) = 1
                          · rw [if_pos c58] at H
                            have c58b0 : ((t258.length : Int) == 1) = true := beq_iff_eq.mpr c58
                            have c58b1 : ((t258.length : Int) != 1) = false := bne_eq_false_iff_eq.mpr c58
                            clear c58
                            replace H := Option.bind_eq_some_iff.mp H
                            obtain ⟨t267, A590, H⟩ := H
                            replace H : (some t267) = some r := H
                            have A59 := Aside0.mk A590
                            clear A590
                            obtain rfl := Option.some.inj H
                            go_wp2_with (first | ((with_reducible refine gate_dst (N := 59) rfl ?_); (try (refine gate_guard (by rfl) ?_; dsimp only)); refine XW.V_bytes _ 5 rfl (N := 59) rfl 9 29 _ rfl x9_10 rfl Try.underlying9 Try.underlying29 Try.underlying5 (by have h_ : x9_10.size ≤ 9223372036854775807 := of_decide_eq_true (by first | (with_reducible assumption) | assumption); first | exact h_ | (simp only [ByteArray.size_append]; exact h_)) (ok := (fun _ => True)) (fun k_ hk => trivial) (Below.refl _ _) (Nat.le_refl _) ?_; intro v256 w60 ho61 hb hg_ hnew_; clear hg_ hnew_; (first | rw [← Ny255.out] at ho61 | (simp only [Int.reduceToNat] at ho61; rw [← Ny255.out] at ho61)); have n0_ := Aside0.mk (Kd.V_lower ho61 (below_size (by repeat (first | (with_reducible first | exact HB.out | apply below_alloc | apply pw_below_drewN | apply below_drew1) | exact HB.out)))); have n1_ := Aside0.mk (below_step (by repeat (first | (with_reducible first | exact HB.out | apply below_alloc | apply pw_below_drewN | apply below_drew1) | exact HB.out)) hb); clear HB; have HO257 := n0_; have HB := n1_; clear n0_ n1_; clear hb ho61; obtain ⟨Ao62, co62, eo62⟩ := Kd.V_slice HO257.out; subst eo62) | ((with_reducible refine gate_callee (f := 14) rfl ?_); refine goesL_ (some 60) rfl rfl Try.func14 (by kernel_rfl) rfl #[.slice Ao62 y255.length co62] rfl (by (try simp only [List.map_toArray, List.map_cons, List.map_nil]); first | done | rfl | (simp only [List.length_drop, List.length_take]; rfl)) ?_; (with_reducible refine (isct_Tokens.calls kj10 _ _ y255 t258 t261 t262 _ ?side1 ?side2 A29.out).mono ?_); (case side1 => repeat (first | exact (Kd.V_reads' HO257.out).2.2 | (with_reducible refine Kd.C_alloc ?_ _) | (with_reducible refine Kd.C_drewN ?_ _) | (with_reducible refine Kd.C_drew ?_))); (case side2 => exact (Kd.V_reads' HO257.out).2.1); rintro e w63 ⟨v259, rfl, ho0, hb⟩; refine ⟨_, rfl, ?_⟩; have n0_ := Aside0.mk (Kd.V_elder' (by (with_reducible repeat (first | apply Kd.V_alloc | apply Kd.V_drewN | apply Kd.V_drew)); exact HO257.out) (Kd.R_base ho0) hb); have n1_ := Aside0.mk (Kd.R_lower ho0 (below_size (by repeat (first | (with_reducible first | exact HB.out | apply below_alloc | apply pw_below_drewN | apply below_drew1) | exact HB.out)))); have n2_ := Aside0.mk (below_step (by repeat (first | (with_reducible first | exact HB.out | apply below_alloc | apply pw_below_drewN | apply below_drew1) | exact HB.out)) hb); clear HO257; clear HB; have HO257 := n0_; have HO260 := n1_; have HB := n2_; clear n0_ n1_ n2_; (try clear hb); (try clear hb2); (try clear hk); (try clear hi); (try clear ho0)) | ((with_reducible refine gate_dst (N := 13) rfl ?_); (try (refine gate_guard (by rfl) ?_; dsimp only)); refine box_event ?hg (N := 13) ?hd (cs := #[.int .i64 0, .int .i64 0]) (t := 26) ?hr ?_; (case hd => rfl); (case hg => rfl); (case hr => first | (go_simp; done) | (go_simp; rfl)); intro gb263 hg w64 hbox hb; have n0_ := Aside0.mk (Kd.V_below (Kd.V_elderB (by (with_reducible repeat (first | apply Kd.V_alloc | apply Kd.V_drewN | apply Kd.V_drew)); exact HO257.out) gb263 (Nat.le_of_eq hg.symm)) hb); have n1_ := Aside0.mk (Kd.R_below (by (with_reducible repeat (first | apply Kd.R_alloc | apply Kd.R_drewN | apply Kd.R_drew)); exact HO260.out) hb); have n2_ := Aside0.mk (below_step (by repeat (first | (with_reducible first | exact HB.out | apply below_alloc | apply pw_below_drewN | apply below_drew1) | exact HB.out)) hb); have n3_ := Aside0.mk (hbox); have n4_ := Aside0.mk ((by rw [hg]; exact (below_size (by repeat (first | (with_reducible first | exact HB.out | apply below_alloc | apply pw_below_drewN | apply below_drew1) | exact HB.out))) : w.heap.size ≤ gb263)); have n5_ := Aside0.mk ((by rw [hg]; exact (below_size (by repeat (first | (with_reducible first | exact HB.out | apply below_alloc | apply pw_below_drewN | apply below_drew1) | exact HB.out))) : w.heap.size ≤ gb263)); clear HO257; clear HO260; clear HB; have HO257 := n0_; have HO260 := n1_; have HB := n2_; have BK263 := n3_; have GW263 := n4_; have GE263 := n5_; clear n0_ n1_ n2_ n3_ n4_ n5_; clear hb hbox hg; have hcz65_0 : w64.cell? ⟨gb263, 0, none⟩ = some (.int .i64 0) := (blk_cell BK263.out 0).trans rfl; have hcz65_1 : w64.cell? ⟨gb263, 1, none⟩ = some (.int .i64 0) := (blk_cell BK263.out 1).trans rfl; have hfz65_0 := blk_frozen BK263.out 0; have hfz65_1 := blk_frozen BK263.out 1; obtain ⟨Ao66, co66, eo66⟩ := Kd.R_slice HO260.out; subst eo66) | (go_at_call 15; (with_reducible refine (glebelaw8_awake.calls kj10  t267 _ A59.out).mono ?_); rintro e w67 ⟨rfl, hb⟩; have n0_ := Aside0.mk (Kd.V_below (by (with_reducible repeat (first | apply Kd.V_alloc | apply Kd.V_drewN | apply Kd.V_drew)); exact (Kd.V_mono (Kd.V_far (p := ⟨gb263, 1, none⟩) (Kd.V_far (p := ⟨gb263, 0, none⟩) (Kd.V_mono HO257.out (fun k_ hk => (⟨hk, hk.2⟩ : _ ∧ k_ ≠ gb263))) (fun _ hk => hk.2) (.int .i64 t261)) (fun _ hk => hk.2) (.int .i64 t262)) (fun _ h_ => h_.1))) hb); have n1_ := Aside0.mk (Kd.R_below (by (with_reducible repeat (first | apply Kd.R_alloc | apply Kd.R_drewN | apply Kd.R_drew)); exact (Kd.R_mono (Kd.R_far (p := ⟨gb263, 1, none⟩) (Kd.R_far (p := ⟨gb263, 0, none⟩) (Kd.R_types HO260.out BK263.out (by decide)) (fun _ hk => hk.2) (.int .i64 t261)) (fun _ hk => hk.2) (.int .i64 t262)) (fun _ h_ => h_.1))) hb); have n2_ := Aside0.mk (blk_below (g := gb263) (o := .cells #[.int .i64 t261, .int .i64 t262] 26 (0, 0)) (by (with_reducible repeat (first | refine blk_drewN ?_ _ | refine blk_drew ?_ | refine blk_alloc ?_ _)); refine blk_put (cs := #[.int .i64 t261, .int .i64 0]) ?_ 1 _ rfl; (with_reducible repeat (first | refine blk_drewN ?_ _ | refine blk_drew ?_ | refine blk_alloc ?_ _)); refine blk_put (cs := #[.int .i64 0, .int .i64 0]) ?_ 0 _ rfl; (with_reducible repeat (first | refine blk_drewN ?_ _ | refine blk_drew ?_ | refine blk_alloc ?_ _)); exact BK263.out) hb); have n3_ := Aside0.mk (below_step (by repeat (first | (with_reducible first | exact HB.out | apply below_alloc | apply pw_below_drewN | apply below_drew1 | refine below_set ?_ GE263.out) | exact HB.out)) hb); clear HO257; clear HO260; clear BK263; clear HB; have HO257 := n0_; have HO260 := n1_; have BK263 := n2_; have HB := n3_; clear n0_ n1_ n2_ n3_; (try clear hb); (try clear hb2); (try clear hk); (try clear hi)))
                            go_ret
                            exact ⟨by first | rfl | (simp [errW_none, errW_some] <;> rfl) | (simp [*, errW_none, errW_some] <;> rfl), by repeat (first | (with_reducible first | exact HB.out | apply below_alloc | apply pw_below_drewN | apply below_drew1 | refine below_set ?_ GE263.out) | exact HB.out)⟩
                          · rw [if_neg c58] at H
                            exact absurd H (by simp)
                        · rw [if_neg c57] at H
                          exact absurd H (by simp)
                      · rw [if_neg c56] at H
                        have c56b0 : ((Go.bits .and .i64 a0 511) == 0) = false := beq_eq_false_iff_ne.mpr c56
                        have c56b1 : ((Go.bits .and .i64 a0 511) != 0) = true := bne_iff_ne.mpr c56
                        by_cases c68 : (t261 == 0 && (t262 == 0)) = true
                        · rw [if_pos c68] at H
                          have c68b0 : (t261 == 0 && (t262 == 0)) = true := c68
                          (try (have c68b1 : decide (t261 = 0 && (t262 == 0)) = true := by simpa using c68))
                          (try (have c68b2 : (t261 == 0 && (t262 == 0)) = true := by simpa using c68))
                          clear c68
                          by_cases c69 : (t258.length : Int) = 2
                          · rw [if_pos c69] at H
                            have c69b0 : ((t258.length : Int) == 2) = true := beq_iff_eq.mpr c69
                            have c69b1 : ((t258.length : Int) != 2) = false := bne_eq_false_iff_eq.mpr c69
                            clear c69
                            by_cases c70 : 1 < (t258.length : Int)
                            · rw [if_pos c70] at H
                              have c70b0 : decide (1 < (t258.length : Int)) = true := decide_eq_true c70
                              have c70b1 : decide (1 < t258.length) = true := decide_eq_true (by omega)
                              clear c70
                              by_cases c71 : (((rd_T33 t258 1).f1).size : Int) = (Go.bits .and .i64 a0 511)
                              · rw [if_pos c71] at H
                                have c71b0 : ((((rd_T33 t258 1).f1).size : Int) == (Go.bits .and .i64 a0 511)) = true := beq_iff_eq.mpr c71
                                have c71b1 : ((((rd_T33 t258 1).f1).size : Int) != (Go.bits .and .i64 a0 511)) = false := bne_eq_false_iff_eq.mpr c71
                                clear c71
                                replace H := Option.bind_eq_some_iff.mp H
                                obtain ⟨t269, A720, H⟩ := H
                                replace H : (some t269) = some r := H
                                have A72 := Aside0.mk A720
                                clear A720
                                obtain rfl := Option.some.inj H
                                go_wp2_with (first | ((with_reducible refine gate_dst (N := 59) rfl ?_); (try (refine gate_guard (by rfl) ?_; dsimp only)); refine XW.V_bytes _ 5 rfl (N := 59) rfl 9 29 _ rfl x9_10 rfl Try.underlying9 Try.underlying29 Try.underlying5 (by have h_ : x9_10.size ≤ 9223372036854775807 := of_decide_eq_true (by first | (with_reducible assumption) | assumption); first | exact h_ | (simp only [ByteArray.size_append]; exact h_)) (ok := (fun _ => True)) (fun k_ hk => trivial) (Below.refl _ _) (Nat.le_refl _) ?_; intro v256 w73 ho74 hb hg_ hnew_; clear hg_ hnew_; (first | rw [← Ny255.out] at ho74 | (simp only [Int.reduceToNat] at ho74; rw [← Ny255.out] at ho74)); have n0_ := Aside0.mk (Kd.V_lower ho74 (below_size (by repeat (first | (with_reducible first | exact HB.out | apply below_alloc | apply pw_below_drewN | apply below_drew1) | exact HB.out)))); have n1_ := Aside0.mk (below_step (by repeat (first | (with_reducible first | exact HB.out | apply below_alloc | apply pw_below_drewN | apply below_drew1) | exact HB.out)) hb); clear HB; have HO257 := n0_; have HB := n1_; clear n0_ n1_; clear hb ho74; obtain ⟨Ao75, co75, eo75⟩ := Kd.V_slice HO257.out; subst eo75) | ((with_reducible refine gate_callee (f := 14) rfl ?_); refine goesL_ (some 60) rfl rfl Try.func14 (by kernel_rfl) rfl #[.slice Ao75 y255.length co75] rfl (by (try simp only [List.map_toArray, List.map_cons, List.map_nil]); first | done | rfl | (simp only [List.length_drop, List.length_take]; rfl)) ?_; (with_reducible refine (isct_Tokens.calls kj10 _ _ y255 t258 t261 t262 _ ?side1 ?side2 A29.out).mono ?_); (case side1 => repeat (first | exact (Kd.V_reads' HO257.out).2.2 | (with_reducible refine Kd.C_alloc ?_ _) | (with_reducible refine Kd.C_drewN ?_ _) | (with_reducible refine Kd.C_drew ?_))); (case side2 => exact (Kd.V_reads' HO257.out).2.1); rintro e w76 ⟨v259, rfl, ho0, hb⟩; refine ⟨_, rfl, ?_⟩; have n0_ := Aside0.mk (Kd.V_elder' (by (with_reducible repeat (first | apply Kd.V_alloc | apply Kd.V_drewN | apply Kd.V_drew)); exact HO257.out) (Kd.R_base ho0) hb); have n1_ := Aside0.mk (Kd.R_lower ho0 (below_size (by repeat (first | (with_reducible first | exact HB.out | apply below_alloc | apply pw_below_drewN | apply below_drew1) | exact HB.out)))); have n2_ := Aside0.mk (below_step (by repeat (first | (with_reducible first | exact HB.out | apply below_alloc | apply pw_below_drewN | apply below_drew1) | exact HB.out)) hb); clear HO257; clear HB; have HO257 := n0_; have HO260 := n1_; have HB := n2_; clear n0_ n1_ n2_; (try clear hb); (try clear hb2); (try clear hk); (try clear hi); (try clear ho0)) | ((with_reducible refine gate_dst (N := 13) rfl ?_); (try (refine gate_guard (by rfl) ?_; dsimp only)); refine box_event ?hg (N := 13) ?hd (cs := #[.int .i64 0, .int .i64 0]) (t := 26) ?hr ?_; (case hd => rfl); (case hg => rfl); (case hr => first | (go_simp; done) | (go_simp; rfl)); intro gb263 hg w77 hbox hb; have n0_ := Aside0.mk (Kd.V_below (Kd.V_elderB (by (with_reducible repeat (first | apply Kd.V_alloc | apply Kd.V_drewN | apply Kd.V_drew)); exact HO257.out) gb263 (Nat.le_of_eq hg.symm)) hb); have n1_ := Aside0.mk (Kd.R_below (by (with_reducible repeat (first | apply Kd.R_alloc | apply Kd.R_drewN | apply Kd.R_drew)); exact HO260.out) hb); have n2_ := Aside0.mk (below_step (by repeat (first | (with_reducible first | exact HB.out | apply below_alloc | apply pw_below_drewN | apply below_drew1) | exact HB.out)) hb); have n3_ := Aside0.mk (hbox); have n4_ := Aside0.mk ((by rw [hg]; exact (below_size (by repeat (first | (with_reducible first | exact HB.out | apply below_alloc | apply pw_below_drewN | apply below_drew1) | exact HB.out))) : w.heap.size ≤ gb263)); have n5_ := Aside0.mk ((by rw [hg]; exact (below_size (by repeat (first | (with_reducible first | exact HB.out | apply below_alloc | apply pw_below_drewN | apply below_drew1) | exact HB.out))) : w.heap.size ≤ gb263)); clear HO257; clear HO260; clear HB; have HO257 := n0_; have HO260 := n1_; have HB := n2_; have BK263 := n3_; have GW263 := n4_; have GE263 := n5_; clear n0_ n1_ n2_ n3_ n4_ n5_; clear hb hbox hg; have hcz78_0 : w77.cell? ⟨gb263, 0, none⟩ = some (.int .i64 0) := (blk_cell BK263.out 0).trans rfl; have hcz78_1 : w77.cell? ⟨gb263, 1, none⟩ = some (.int .i64 0) := (blk_cell BK263.out 1).trans rfl; have hfz78_0 := blk_frozen BK263.out 0; have hfz78_1 := blk_frozen BK263.out 1; obtain ⟨Ao79, co79, eo79⟩ := Kd.R_slice HO260.out; subst eo79; have p268 : 0 ≤ (1 : Int) := (by omega); have q268 : 1 < (t258.length : Int) := of_decide_eq_true (by first | (with_reducible assumption) | assumption); obtain ⟨ad268, e268, hx268_0, hx268_1, hx268_2⟩ := at_T33 (Kd.R_reads' HO260.out).2.2 1 p268 q268; cases e268; (try simp only [show (1 : Int).toNat = 1 from rfl, Nat.reduceMul, Nat.reduceEqDiff, Go.Addr.add, ↓reduceIte] at hx268_0); (try simp only [show (1 : Int).toNat = 1 from rfl, Nat.reduceMul, Nat.reduceEqDiff, Go.Addr.add, ↓reduceIte] at hx268_1); (try simp only [show (1 : Int).toNat = 1 from rfl, Nat.reduceMul, Nat.reduceEqDiff, Go.Addr.add, ↓reduceIte] at hx268_2); have qi268 : (1 < t258.length) = True := eq_true (by omega); (try rw [show ((1 : Int)).toNat = 1 from rfl] at hx268_0); (try rw [show 1 * 3 = 3 from rfl] at hx268_0); (try rw [show ((1 : Int)).toNat = 1 from rfl] at hx268_1); (try rw [show 1 * 3 = 3 from rfl] at hx268_1); (try rw [show ((1 : Int)).toNat = 1 from rfl] at hx268_2); (try rw [show 1 * 3 = 3 from rfl] at hx268_2); have hn268_0 : ad268.block ≠ gb263 := Kd.own_blk (Kd.R_ne HO260.out BK263.out (by decide)); have hn268_1 : ad268.block ≠ gb263 := Kd.own_blk (Kd.R_ne HO260.out BK263.out (by decide)); replace hx268_0 := (cell_far (p := ⟨gb263, 0, none⟩) (by first | (rw [add_block]; exact hn268_0) | (show (Addr.add _ _).block ≠ _; rw [add_block]; exact hn268_0) | exact hn268_0) (.int .i64 t261)).trans hx268_0; replace hx268_1 := (cell_far (p := ⟨gb263, 0, none⟩) (by first | (rw [add_block]; exact hn268_0) | (show (Addr.add _ _).block ≠ _; rw [add_block]; exact hn268_0) | exact hn268_0) (.int .i64 t261)).trans hx268_1; replace hx268_2 := (cell_far (p := ⟨gb263, 0, none⟩) (by first | (rw [add_block]; exact hn268_0) | (show (Addr.add _ _).block ≠ _; rw [add_block]; exact hn268_0) | exact hn268_0) (.int .i64 t261)).trans hx268_2; replace hx268_0 := (cell_far (p := ⟨gb263, 1, none⟩) (by first | (rw [add_block]; exact hn268_1) | (show (Addr.add _ _).block ≠ _; rw [add_block]; exact hn268_1) | exact hn268_1) (.int .i64 t262)).trans hx268_0; replace hx268_1 := (cell_far (p := ⟨gb263, 1, none⟩) (by first | (rw [add_block]; exact hn268_1) | (show (Addr.add _ _).block ≠ _; rw [add_block]; exact hn268_1) | exact hn268_1) (.int .i64 t262)).trans hx268_1; replace hx268_2 := (cell_far (p := ⟨gb263, 1, none⟩) (by first | (rw [add_block]; exact hn268_1) | (show (Addr.add _ _).block ≠ _; rw [add_block]; exact hn268_1) | exact hn268_1) (.int .i64 t262)).trans hx268_2; clear hn268_0; clear hn268_1; replace p268 := eq_true p268; replace q268 := eq_true q268) | (go_at_call 15; (with_reducible refine (glebelaw8_awake.calls kj10  t269 _ A72.out).mono ?_); rintro e w80 ⟨rfl, hb⟩; have n0_ := Aside0.mk (Kd.V_below (by (with_reducible repeat (first | apply Kd.V_alloc | apply Kd.V_drewN | apply Kd.V_drew)); exact (Kd.V_mono (Kd.V_far (p := ⟨gb263, 1, none⟩) (Kd.V_far (p := ⟨gb263, 0, none⟩) (Kd.V_mono HO257.out (fun k_ hk => (⟨hk, hk.2⟩ : _ ∧ k_ ≠ gb263))) (fun _ hk => hk.2) (.int .i64 t261)) (fun _ hk => hk.2) (.int .i64 t262)) (fun _ h_ => h_.1))) hb); have n1_ := Aside0.mk (Kd.R_below (by (with_reducible repeat (first | apply Kd.R_alloc | apply Kd.R_drewN | apply Kd.R_drew)); exact (Kd.R_mono (Kd.R_far (p := ⟨gb263, 1, none⟩) (Kd.R_far (p := ⟨gb263, 0, none⟩) (Kd.R_types HO260.out BK263.out (by decide)) (fun _ hk => hk.2) (.int .i64 t261)) (fun _ hk => hk.2) (.int .i64 t262)) (fun _ h_ => h_.1))) hb); have n2_ := Aside0.mk (blk_below (g := gb263) (o := .cells #[.int .i64 t261, .int .i64 t262] 26 (0, 0)) (by (with_reducible repeat (first | refine blk_drewN ?_ _ | refine blk_drew ?_ | refine blk_alloc ?_ _)); refine blk_put (cs := #[.int .i64 t261, .int .i64 0]) ?_ 1 _ rfl; (with_reducible repeat (first | refine blk_drewN ?_ _ | refine blk_drew ?_ | refine blk_alloc ?_ _)); refine blk_put (cs := #[.int .i64 0, .int .i64 0]) ?_ 0 _ rfl; (with_reducible repeat (first | refine blk_drewN ?_ _ | refine blk_drew ?_ | refine blk_alloc ?_ _)); exact BK263.out) hb); have n3_ := Aside0.mk (below_step (by repeat (first | (with_reducible first | exact HB.out | apply below_alloc | apply pw_below_drewN | apply below_drew1 | refine below_set ?_ GE263.out) | exact HB.out)) hb); clear HO257; clear HO260; clear BK263; clear HB; have HO257 := n0_; have HO260 := n1_; have BK263 := n2_; have HB := n3_; clear n0_ n1_ n2_ n3_; (try clear hb); (try clear hb2); (try clear hk); (try clear hi)))
                                go_ret
                                exact ⟨by first | rfl | (simp [errW_none, errW_some] <;> rfl) | (simp [*, errW_none, errW_some] <;> rfl), by repeat (first | (with_reducible first | exact HB.out | apply below_alloc | apply pw_below_drewN | apply below_drew1 | refine below_set ?_ GE263.out) | exact HB.out)⟩
                              · rw [if_neg c71] at H
                                exact absurd H (by simp)
                            · rw [if_neg c70] at H
                              exact absurd H (by simp)
                          · rw [if_neg c69] at H
                            exact absurd H (by simp)
                        · rw [if_neg c68] at H
                          exact absurd H (by simp)
                · rw [if_neg c28] at H
                  exact absurd H (by simp)
        · rw [if_neg c10] at H
          exact absurd H (by simp)

/-- THE ONE PURE STATEMENT of glebelaw8_IsctLong: yours. -/
def glebelaw8_IsctLong.Pure : Prop := ∀ (a0 : Int) (a1 : Bool) (a2 : Bool), (Lit.int .i64 a0).wf = true → ∃ k, glebelaw8_IsctLong.f k a0 a1 a2 = some true
theorem glebelaw8_IsctLong.walk (P : glebelaw8_IsctLong.Pure) (a0 : Int) (a1 : Bool) (a2 : Bool) (w : World) (w0 : (Lit.int .i64 a0).wf = true) :
    Calls Try.prog 4 #[.int .i64 a0, .bool a1, .bool a2] w fun e w' => e = .returned (.bool true) ∧ Below w.heap.size w w' := by
  obtain ⟨k, h⟩ := P a0 a1 a2 w0
  refine (glebelaw8_IsctLong.calls k a0 a1 a2 true w h).mono ?_
  rintro e w' ⟨rfl, hd⟩
  exact ⟨rfl, hd⟩

/-! ### glebelaw8_Text: function 16 -/
def glebelaw8_Text.l0 : Nat → List Int → List ByteArray → List Int → Int → Option (List Int)
  | 0, _, _, _, _ => none
  | k + 1, x0, x3, x4, x5 => if x5 < (x0.length : Int) then (if x5 < 60 then (if 0 ≤ x5 then (if (x3.length : Int) = 0 then (none) else (if 0 ≤ (Int.tmod (Go.bits .and .i64 (rd x0 x5) 65535) (x3.length : Int)) then (if (Int.tmod (Go.bits .and .i64 (rd x0 x5) 65535) (x3.length : Int)) < (x3.length : Int) then (if x4.length + (rdOf ByteArray.empty x3 (Int.tmod (Go.bits .and .i64 (rd x0 x5) 65535) (x3.length : Int))).size < 140737488355328 then ((some (x4 ++ bytesOf (rdOf ByteArray.empty x3 (Int.tmod (Go.bits .and .i64 (rd x0 x5) 65535) (x3.length : Int))) : List Int)).bind fun y275 => (if 0 ≤ (Go.bits .and .i64 ((rd x0 x5) / 65536) 3) then (if (Go.bits .and .i64 ((rd x0 x5) / 65536) 3) < 4 then (if y275.length < 140737488355328 then (glebelaw8_Text.l0 k x0 x3 (y275 ++ [bt (⟨#[32, 10, 9, 32]⟩ : ByteArray) (Go.bits .and .i64 ((rd x0 x5) / 65536) 3)]) (wrap64 (x5 + 1))) else (none)) else (none)) else (none))) else (none)) else (none)) else (none))) else (none)) else (some x4)) else (some x4)
def glebelaw8_Text.f (k : Nat) (l0 : List Int) : Option (List Int) := glebelaw8_Text.l0 k l0 (([(⟨#[111, 112, 116, 105, 111, 110]⟩ : ByteArray), (⟨#[115, 117, 98, 110, 101, 116]⟩ : ByteArray), (⟨#[115, 117, 98, 110, 101, 116, 54]⟩ : ByteArray), (⟨#[110, 101, 116, 109, 97, 115, 107]⟩ : ByteArray), (⟨#[114, 97, 110, 103, 101]⟩ : ByteArray), (⟨#[114, 97, 110, 103, 101, 54]⟩ : ByteArray), (⟨#[104, 111, 115, 116]⟩ : ByteArray), (⟨#[104, 97, 114, 100, 119, 97, 114, 101]⟩ : ByteArray), (⟨#[101, 116, 104, 101, 114, 110, 101, 116]⟩ : ByteArray), (⟨#[102, 105, 120, 101, 100, 45, 97, 100, 100, 114, 101, 115, 115]⟩ : ByteArray), (⟨#[100, 101, 102, 97, 117, 108, 116, 45, 108, 101, 97, 115, 101, 45, 116, 105, 109, 101]⟩ : ByteArray), (⟨#[115, 104, 97, 114, 101, 100, 45, 110, 101, 116, 119, 111, 114, 107]⟩ : ByteArray), (⟨#[108, 101, 97, 115, 101]⟩ : ByteArray), (⟨#[101, 110, 100, 115]⟩ : ByteArray), (⟨#[110, 101, 118, 101, 114]⟩ : ByteArray), (⟨#[114, 111, 117, 116, 101, 114, 115]⟩ : ByteArray), (⟨#[100, 111, 109, 97, 105, 110, 45, 110, 97, 109, 101]⟩ : ByteArray), (⟨#[49, 48, 46, 48, 46, 48, 46, 48]⟩ : ByteArray), (⟨#[50, 53, 53, 46, 50, 53, 53, 46, 50, 53, 53, 46, 48]⟩ : ByteArray), (⟨#[49, 48, 46, 48, 46, 48, 46, 49]⟩ : ByteArray), (⟨#[49, 48, 46, 48, 46, 48, 46, 57]⟩ : ByteArray), (⟨#[50, 48, 48, 49, 58, 100, 98, 56, 58, 58, 47, 54, 52]⟩ : ByteArray), (⟨#[50, 48, 48, 49, 58, 100, 98, 56, 58, 58, 53]⟩ : ByteArray), (⟨#[48, 48, 58, 48, 48, 58, 48, 48, 58, 48, 48, 58, 48, 48, 58, 48, 49]⟩ : ByteArray), (⟨#[97]⟩ : ByteArray), (⟨#[95]⟩ : ByteArray), (⟨#[51, 54, 48, 48]⟩ : ByteArray), (⟨#[52]⟩ : ByteArray), (⟨#[50, 48, 50, 52, 47, 48, 50, 47, 50, 57]⟩ : ByteArray), (⟨#[50, 51, 58, 53, 57, 58, 53, 57]⟩ : ByteArray), (⟨#[34, 120, 32, 121, 34]⟩ : ByteArray), (⟨#[34, 97, 92, 34, 98, 34]⟩ : ByteArray), (⟨#[34]⟩ : ByteArray), (⟨#[123]⟩ : ByteArray), (⟨#[125]⟩ : ByteArray), (⟨#[59]⟩ : ByteArray), (⟨#[44]⟩ : ByteArray), (⟨#[35]⟩ : ByteArray), (⟨#[10]⟩ : ByteArray), (⟨#[61]⟩ : ByteArray), (⟨#[92]⟩ : ByteArray), (⟨#[195, 169]⟩ : ByteArray)] : List ByteArray)) ([] : List Int) 0
theorem glebelaw8_Text.mono_l : ∀ k, (∀ y0 y1 y2 y3, LeO (glebelaw8_Text.l0 k y0 y1 y2 y3) (glebelaw8_Text.l0 (k + 1) y0 y1 y2 y3))
  | 0 => fun _ _ _ _ r h => by simp [glebelaw8_Text.l0] at h
  | k + 1 => by
    have ih0 := glebelaw8_Text.mono_l k
    · intro y0 y1 y2 y3
      unfold glebelaw8_Text.l0
      repeat' first
      | (with_reducible exact ih0 _ _ _ _)
      | (with_reducible exact LeO.refl _)
      | (with_reducible exact LeO.none _)
      | (with_reducible refine LeO.ite ?_ ?_)
      | (with_reducible refine LeO.bind ?_ (fun _ => ?_))
      | exact ih0 _ _ _ _
      | exact LeO.none _
      | refine LeO.ite ?_ ?_
      | refine LeO.bind ?_ (fun _ => ?_)
theorem glebelaw8_Text.mono : ∀ a0 k, LeO (glebelaw8_Text.f k a0) (glebelaw8_Text.f (k + 1) a0) := by
  intro a0 k
  have ih0 := glebelaw8_Text.mono_l k
  unfold glebelaw8_Text.f
  repeat' first
      | (with_reducible exact ih0 _ _ _ _)
      | (with_reducible exact LeO.refl _)
      | (with_reducible exact LeO.none _)
      | (with_reducible refine LeO.ite ?_ ?_)
      | (with_reducible refine LeO.bind ?_ (fun _ => ?_))
      | exact ih0 _ _ _ _
      | exact LeO.none _
      | refine LeO.ite ?_ ?_
      | refine LeO.bind ?_ (fun _ => ?_)
set_option maxHeartbeats 8000000 in
set_option maxRecDepth 100000 in
theorem glebelaw8_Text.calls (k : Nat) (A0 : Option Addr) (c0 : Nat) (l0 : List Int) (r : List Int) (w : World) (hr0 : Kd.C (Kd.int .i64) w A0 l0.length l0) (hc0 : l0.length ≤ c0) (h : glebelaw8_Text.f k l0 = some r) :
    Calls Try.prog 16 #[.slice A0 l0.length c0] w fun e w' => ∃ v0_ : Value, e = .returned (v0_) ∧ Kd.R (Kd.int .u8) 5 w' w.heap.size (fun _ => True) v0_ r ∧ Below w.heap.size w w' := by
  have HR0 := Aside0.mk hr0
  have HC0 := Aside0.mk hc0
  clear hr0 hc0
  have HB := Aside0.mk (Below.refl w.heap.size w)
  have H : (glebelaw8_Text.l0 k l0 (([(⟨#[111, 112, 116, 105, 111, 110]⟩ : ByteArray), (⟨#[115, 117, 98, 110, 101, 116]⟩ : ByteArray), (⟨#[115, 117, 98, 110, 101, 116, 54]⟩ : ByteArray), (⟨#[110, 101, 116, 109, 97, 115, 107]⟩ : ByteArray), (⟨#[114, 97, 110, 103, 101]⟩ : ByteArray), (⟨#[114, 97, 110, 103, 101, 54]⟩ : ByteArray), (⟨#[104, 111, 115, 116]⟩ : ByteArray), (⟨#[104, 97, 114, 100, 119, 97, 114, 101]⟩ : ByteArray), (⟨#[101, 116, 104, 101, 114, 110, 101, 116]⟩ : ByteArray), (⟨#[102, 105, 120, 101, 100, 45, 97, 100, 100, 114, 101, 115, 115]⟩ : ByteArray), (⟨#[100, 101, 102, 97, 117, 108, 116, 45, 108, 101, 97, 115, 101, 45, 116, 105, 109, 101]⟩ : ByteArray), (⟨#[115, 104, 97, 114, 101, 100, 45, 110, 101, 116, 119, 111, 114, 107]⟩ : ByteArray), (⟨#[108, 101, 97, 115, 101]⟩ : ByteArray), (⟨#[101, 110, 100, 115]⟩ : ByteArray), (⟨#[110, 101, 118, 101, 114]⟩ : ByteArray), (⟨#[114, 111, 117, 116, 101, 114, 115]⟩ : ByteArray), (⟨#[100, 111, 109, 97, 105, 110, 45, 110, 97, 109, 101]⟩ : ByteArray), (⟨#[49, 48, 46, 48, 46, 48, 46, 48]⟩ : ByteArray), (⟨#[50, 53, 53, 46, 50, 53, 53, 46, 50, 53, 53, 46, 48]⟩ : ByteArray), (⟨#[49, 48, 46, 48, 46, 48, 46, 49]⟩ : ByteArray), (⟨#[49, 48, 46, 48, 46, 48, 46, 57]⟩ : ByteArray), (⟨#[50, 48, 48, 49, 58, 100, 98, 56, 58, 58, 47, 54, 52]⟩ : ByteArray), (⟨#[50, 48, 48, 49, 58, 100, 98, 56, 58, 58, 53]⟩ : ByteArray), (⟨#[48, 48, 58, 48, 48, 58, 48, 48, 58, 48, 48, 58, 48, 48, 58, 48, 49]⟩ : ByteArray), (⟨#[97]⟩ : ByteArray), (⟨#[95]⟩ : ByteArray), (⟨#[51, 54, 48, 48]⟩ : ByteArray), (⟨#[52]⟩ : ByteArray), (⟨#[50, 48, 50, 52, 47, 48, 50, 47, 50, 57]⟩ : ByteArray), (⟨#[50, 51, 58, 53, 57, 58, 53, 57]⟩ : ByteArray), (⟨#[34, 120, 32, 121, 34]⟩ : ByteArray), (⟨#[34, 97, 92, 34, 98, 34]⟩ : ByteArray), (⟨#[34]⟩ : ByteArray), (⟨#[123]⟩ : ByteArray), (⟨#[125]⟩ : ByteArray), (⟨#[59]⟩ : ByteArray), (⟨#[44]⟩ : ByteArray), (⟨#[35]⟩ : ByteArray), (⟨#[10]⟩ : ByteArray), (⟨#[61]⟩ : ByteArray), (⟨#[92]⟩ : ByteArray), (⟨#[195, 169]⟩ : ByteArray)] : List ByteArray)) ([] : List Int) 0) = some r := h
  clear h
  obtain ⟨y270, hy270⟩ : ∃ y_ : List ByteArray, y_ = (([(⟨#[111, 112, 116, 105, 111, 110]⟩ : ByteArray), (⟨#[115, 117, 98, 110, 101, 116]⟩ : ByteArray), (⟨#[115, 117, 98, 110, 101, 116, 54]⟩ : ByteArray), (⟨#[110, 101, 116, 109, 97, 115, 107]⟩ : ByteArray), (⟨#[114, 97, 110, 103, 101]⟩ : ByteArray), (⟨#[114, 97, 110, 103, 101, 54]⟩ : ByteArray), (⟨#[104, 111, 115, 116]⟩ : ByteArray), (⟨#[104, 97, 114, 100, 119, 97, 114, 101]⟩ : ByteArray), (⟨#[101, 116, 104, 101, 114, 110, 101, 116]⟩ : ByteArray), (⟨#[102, 105, 120, 101, 100, 45, 97, 100, 100, 114, 101, 115, 115]⟩ : ByteArray), (⟨#[100, 101, 102, 97, 117, 108, 116, 45, 108, 101, 97, 115, 101, 45, 116, 105, 109, 101]⟩ : ByteArray), (⟨#[115, 104, 97, 114, 101, 100, 45, 110, 101, 116, 119, 111, 114, 107]⟩ : ByteArray), (⟨#[108, 101, 97, 115, 101]⟩ : ByteArray), (⟨#[101, 110, 100, 115]⟩ : ByteArray), (⟨#[110, 101, 118, 101, 114]⟩ : ByteArray), (⟨#[114, 111, 117, 116, 101, 114, 115]⟩ : ByteArray), (⟨#[100, 111, 109, 97, 105, 110, 45, 110, 97, 109, 101]⟩ : ByteArray), (⟨#[49, 48, 46, 48, 46, 48, 46, 48]⟩ : ByteArray), (⟨#[50, 53, 53, 46, 50, 53, 53, 46, 50, 53, 53, 46, 48]⟩ : ByteArray), (⟨#[49, 48, 46, 48, 46, 48, 46, 49]⟩ : ByteArray), (⟨#[49, 48, 46, 48, 46, 48, 46, 57]⟩ : ByteArray), (⟨#[50, 48, 48, 49, 58, 100, 98, 56, 58, 58, 47, 54, 52]⟩ : ByteArray), (⟨#[50, 48, 48, 49, 58, 100, 98, 56, 58, 58, 53]⟩ : ByteArray), (⟨#[48, 48, 58, 48, 48, 58, 48, 48, 58, 48, 48, 58, 48, 48, 58, 48, 49]⟩ : ByteArray), (⟨#[97]⟩ : ByteArray), (⟨#[95]⟩ : ByteArray), (⟨#[51, 54, 48, 48]⟩ : ByteArray), (⟨#[52]⟩ : ByteArray), (⟨#[50, 48, 50, 52, 47, 48, 50, 47, 50, 57]⟩ : ByteArray), (⟨#[50, 51, 58, 53, 57, 58, 53, 57]⟩ : ByteArray), (⟨#[34, 120, 32, 121, 34]⟩ : ByteArray), (⟨#[34, 97, 92, 34, 98, 34]⟩ : ByteArray), (⟨#[34]⟩ : ByteArray), (⟨#[123]⟩ : ByteArray), (⟨#[125]⟩ : ByteArray), (⟨#[59]⟩ : ByteArray), (⟨#[44]⟩ : ByteArray), (⟨#[35]⟩ : ByteArray), (⟨#[10]⟩ : ByteArray), (⟨#[61]⟩ : ByteArray), (⟨#[92]⟩ : ByteArray), (⟨#[195, 169]⟩ : ByteArray)] : List ByteArray)) := ⟨_, rfl⟩
  replace H : (glebelaw8_Text.l0 k l0 y270 ([] : List Int) 0) = some r := by first | (rw [hy270]; with_reducible exact H) | (have H2_ := (Option.bind_some _ _).symm.trans H; rw [hy270]; with_reducible exact H2_) | (have H2_ := (Option.bind_some _ _).symm.trans H; with_reducible exact H2_) | with_reducible exact H | (rw [hy270]; exact H) | exact H
  have Ny270 := Aside0.mk hy270
  clear hy270
  have H' := Aside0.mk H
  clear H
  go_enter Try.func16, Try.ntmps16
  go_wp2_with (first | ((with_reducible refine gate_dst (N := 6) rfl ?_); refine Kd.R_lit Kd.string _ 9 ?hg (N := 6) ?hd (xs := ([(⟨#[111, 112, 116, 105, 111, 110]⟩ : ByteArray), (⟨#[115, 117, 98, 110, 101, 116]⟩ : ByteArray), (⟨#[115, 117, 98, 110, 101, 116, 54]⟩ : ByteArray), (⟨#[110, 101, 116, 109, 97, 115, 107]⟩ : ByteArray), (⟨#[114, 97, 110, 103, 101]⟩ : ByteArray), (⟨#[114, 97, 110, 103, 101, 54]⟩ : ByteArray), (⟨#[104, 111, 115, 116]⟩ : ByteArray), (⟨#[104, 97, 114, 100, 119, 97, 114, 101]⟩ : ByteArray), (⟨#[101, 116, 104, 101, 114, 110, 101, 116]⟩ : ByteArray), (⟨#[102, 105, 120, 101, 100, 45, 97, 100, 100, 114, 101, 115, 115]⟩ : ByteArray), (⟨#[100, 101, 102, 97, 117, 108, 116, 45, 108, 101, 97, 115, 101, 45, 116, 105, 109, 101]⟩ : ByteArray), (⟨#[115, 104, 97, 114, 101, 100, 45, 110, 101, 116, 119, 111, 114, 107]⟩ : ByteArray), (⟨#[108, 101, 97, 115, 101]⟩ : ByteArray), (⟨#[101, 110, 100, 115]⟩ : ByteArray), (⟨#[110, 101, 118, 101, 114]⟩ : ByteArray), (⟨#[114, 111, 117, 116, 101, 114, 115]⟩ : ByteArray), (⟨#[100, 111, 109, 97, 105, 110, 45, 110, 97, 109, 101]⟩ : ByteArray), (⟨#[49, 48, 46, 48, 46, 48, 46, 48]⟩ : ByteArray), (⟨#[50, 53, 53, 46, 50, 53, 53, 46, 50, 53, 53, 46, 48]⟩ : ByteArray), (⟨#[49, 48, 46, 48, 46, 48, 46, 49]⟩ : ByteArray), (⟨#[49, 48, 46, 48, 46, 48, 46, 57]⟩ : ByteArray), (⟨#[50, 48, 48, 49, 58, 100, 98, 56, 58, 58, 47, 54, 52]⟩ : ByteArray), (⟨#[50, 48, 48, 49, 58, 100, 98, 56, 58, 58, 53]⟩ : ByteArray), (⟨#[48, 48, 58, 48, 48, 58, 48, 48, 58, 48, 48, 58, 48, 48, 58, 48, 49]⟩ : ByteArray), (⟨#[97]⟩ : ByteArray), (⟨#[95]⟩ : ByteArray), (⟨#[51, 54, 48, 48]⟩ : ByteArray), (⟨#[52]⟩ : ByteArray), (⟨#[50, 48, 50, 52, 47, 48, 50, 47, 50, 57]⟩ : ByteArray), (⟨#[50, 51, 58, 53, 57, 58, 53, 57]⟩ : ByteArray), (⟨#[34, 120, 32, 121, 34]⟩ : ByteArray), (⟨#[34, 97, 92, 34, 98, 34]⟩ : ByteArray), (⟨#[34]⟩ : ByteArray), (⟨#[123]⟩ : ByteArray), (⟨#[125]⟩ : ByteArray), (⟨#[59]⟩ : ByteArray), (⟨#[44]⟩ : ByteArray), (⟨#[35]⟩ : ByteArray), (⟨#[10]⟩ : ByteArray), (⟨#[61]⟩ : ByteArray), (⟨#[92]⟩ : ByteArray), (⟨#[195, 169]⟩ : ByteArray)] : List ByteArray)) (inner := [.string (⟨#[111, 112, 116, 105, 111, 110]⟩ : ByteArray), .string (⟨#[115, 117, 98, 110, 101, 116]⟩ : ByteArray), .string (⟨#[115, 117, 98, 110, 101, 116, 54]⟩ : ByteArray), .string (⟨#[110, 101, 116, 109, 97, 115, 107]⟩ : ByteArray), .string (⟨#[114, 97, 110, 103, 101]⟩ : ByteArray), .string (⟨#[114, 97, 110, 103, 101, 54]⟩ : ByteArray), .string (⟨#[104, 111, 115, 116]⟩ : ByteArray), .string (⟨#[104, 97, 114, 100, 119, 97, 114, 101]⟩ : ByteArray), .string (⟨#[101, 116, 104, 101, 114, 110, 101, 116]⟩ : ByteArray), .string (⟨#[102, 105, 120, 101, 100, 45, 97, 100, 100, 114, 101, 115, 115]⟩ : ByteArray), .string (⟨#[100, 101, 102, 97, 117, 108, 116, 45, 108, 101, 97, 115, 101, 45, 116, 105, 109, 101]⟩ : ByteArray), .string (⟨#[115, 104, 97, 114, 101, 100, 45, 110, 101, 116, 119, 111, 114, 107]⟩ : ByteArray), .string (⟨#[108, 101, 97, 115, 101]⟩ : ByteArray), .string (⟨#[101, 110, 100, 115]⟩ : ByteArray), .string (⟨#[110, 101, 118, 101, 114]⟩ : ByteArray), .string (⟨#[114, 111, 117, 116, 101, 114, 115]⟩ : ByteArray), .string (⟨#[100, 111, 109, 97, 105, 110, 45, 110, 97, 109, 101]⟩ : ByteArray), .string (⟨#[49, 48, 46, 48, 46, 48, 46, 48]⟩ : ByteArray), .string (⟨#[50, 53, 53, 46, 50, 53, 53, 46, 50, 53, 53, 46, 48]⟩ : ByteArray), .string (⟨#[49, 48, 46, 48, 46, 48, 46, 49]⟩ : ByteArray), .string (⟨#[49, 48, 46, 48, 46, 48, 46, 57]⟩ : ByteArray), .string (⟨#[50, 48, 48, 49, 58, 100, 98, 56, 58, 58, 47, 54, 52]⟩ : ByteArray), .string (⟨#[50, 48, 48, 49, 58, 100, 98, 56, 58, 58, 53]⟩ : ByteArray), .string (⟨#[48, 48, 58, 48, 48, 58, 48, 48, 58, 48, 48, 58, 48, 48, 58, 48, 49]⟩ : ByteArray), .string (⟨#[97]⟩ : ByteArray), .string (⟨#[95]⟩ : ByteArray), .string (⟨#[51, 54, 48, 48]⟩ : ByteArray), .string (⟨#[52]⟩ : ByteArray), .string (⟨#[50, 48, 50, 52, 47, 48, 50, 47, 50, 57]⟩ : ByteArray), .string (⟨#[50, 51, 58, 53, 57, 58, 53, 57]⟩ : ByteArray), .string (⟨#[34, 120, 32, 121, 34]⟩ : ByteArray), .string (⟨#[34, 97, 92, 34, 98, 34]⟩ : ByteArray), .string (⟨#[34]⟩ : ByteArray), .string (⟨#[123]⟩ : ByteArray), .string (⟨#[125]⟩ : ByteArray), .string (⟨#[59]⟩ : ByteArray), .string (⟨#[44]⟩ : ByteArray), .string (⟨#[35]⟩ : ByteArray), .string (⟨#[10]⟩ : ByteArray), .string (⟨#[61]⟩ : ByteArray), .string (⟨#[92]⟩ : ByteArray), .string (⟨#[195, 169]⟩ : ByteArray)]) (ok := fun _ => True) (okp := fun _ => True) ?hr ?hp (fun _ hk => hk) trivial (Below.refl _ _) (Nat.le_refl _) (by simp) ?_; (case hd => rfl); (case hg => rfl); (case hr => first | (go_simp; done) | (go_simp; rfl)); (case hp => exact (Reps.one (show Kd.M Kd.string _ _ _ (⟨#[111, 112, 116, 105, 111, 110]⟩ : ByteArray) [.string (⟨#[111, 112, 116, 105, 111, 110]⟩ : ByteArray)] from rfl) (Reps.one (show Kd.M Kd.string _ _ _ (⟨#[115, 117, 98, 110, 101, 116]⟩ : ByteArray) [.string (⟨#[115, 117, 98, 110, 101, 116]⟩ : ByteArray)] from rfl) (Reps.one (show Kd.M Kd.string _ _ _ (⟨#[115, 117, 98, 110, 101, 116, 54]⟩ : ByteArray) [.string (⟨#[115, 117, 98, 110, 101, 116, 54]⟩ : ByteArray)] from rfl) (Reps.one (show Kd.M Kd.string _ _ _ (⟨#[110, 101, 116, 109, 97, 115, 107]⟩ : ByteArray) [.string (⟨#[110, 101, 116, 109, 97, 115, 107]⟩ : ByteArray)] from rfl) (Reps.one (show Kd.M Kd.string _ _ _ (⟨#[114, 97, 110, 103, 101]⟩ : ByteArray) [.string (⟨#[114, 97, 110, 103, 101]⟩ : ByteArray)] from rfl) (Reps.one (show Kd.M Kd.string _ _ _ (⟨#[114, 97, 110, 103, 101, 54]⟩ : ByteArray) [.string (⟨#[114, 97, 110, 103, 101, 54]⟩ : ByteArray)] from rfl) (Reps.one (show Kd.M Kd.string _ _ _ (⟨#[104, 111, 115, 116]⟩ : ByteArray) [.string (⟨#[104, 111, 115, 116]⟩ : ByteArray)] from rfl) (Reps.one (show Kd.M Kd.string _ _ _ (⟨#[104, 97, 114, 100, 119, 97, 114, 101]⟩ : ByteArray) [.string (⟨#[104, 97, 114, 100, 119, 97, 114, 101]⟩ : ByteArray)] from rfl) (Reps.one (show Kd.M Kd.string _ _ _ (⟨#[101, 116, 104, 101, 114, 110, 101, 116]⟩ : ByteArray) [.string (⟨#[101, 116, 104, 101, 114, 110, 101, 116]⟩ : ByteArray)] from rfl) (Reps.one (show Kd.M Kd.string _ _ _ (⟨#[102, 105, 120, 101, 100, 45, 97, 100, 100, 114, 101, 115, 115]⟩ : ByteArray) [.string (⟨#[102, 105, 120, 101, 100, 45, 97, 100, 100, 114, 101, 115, 115]⟩ : ByteArray)] from rfl) (Reps.one (show Kd.M Kd.string _ _ _ (⟨#[100, 101, 102, 97, 117, 108, 116, 45, 108, 101, 97, 115, 101, 45, 116, 105, 109, 101]⟩ : ByteArray) [.string (⟨#[100, 101, 102, 97, 117, 108, 116, 45, 108, 101, 97, 115, 101, 45, 116, 105, 109, 101]⟩ : ByteArray)] from rfl) (Reps.one (show Kd.M Kd.string _ _ _ (⟨#[115, 104, 97, 114, 101, 100, 45, 110, 101, 116, 119, 111, 114, 107]⟩ : ByteArray) [.string (⟨#[115, 104, 97, 114, 101, 100, 45, 110, 101, 116, 119, 111, 114, 107]⟩ : ByteArray)] from rfl) (Reps.one (show Kd.M Kd.string _ _ _ (⟨#[108, 101, 97, 115, 101]⟩ : ByteArray) [.string (⟨#[108, 101, 97, 115, 101]⟩ : ByteArray)] from rfl) (Reps.one (show Kd.M Kd.string _ _ _ (⟨#[101, 110, 100, 115]⟩ : ByteArray) [.string (⟨#[101, 110, 100, 115]⟩ : ByteArray)] from rfl) (Reps.one (show Kd.M Kd.string _ _ _ (⟨#[110, 101, 118, 101, 114]⟩ : ByteArray) [.string (⟨#[110, 101, 118, 101, 114]⟩ : ByteArray)] from rfl) (Reps.one (show Kd.M Kd.string _ _ _ (⟨#[114, 111, 117, 116, 101, 114, 115]⟩ : ByteArray) [.string (⟨#[114, 111, 117, 116, 101, 114, 115]⟩ : ByteArray)] from rfl) (Reps.one (show Kd.M Kd.string _ _ _ (⟨#[100, 111, 109, 97, 105, 110, 45, 110, 97, 109, 101]⟩ : ByteArray) [.string (⟨#[100, 111, 109, 97, 105, 110, 45, 110, 97, 109, 101]⟩ : ByteArray)] from rfl) (Reps.one (show Kd.M Kd.string _ _ _ (⟨#[49, 48, 46, 48, 46, 48, 46, 48]⟩ : ByteArray) [.string (⟨#[49, 48, 46, 48, 46, 48, 46, 48]⟩ : ByteArray)] from rfl) (Reps.one (show Kd.M Kd.string _ _ _ (⟨#[50, 53, 53, 46, 50, 53, 53, 46, 50, 53, 53, 46, 48]⟩ : ByteArray) [.string (⟨#[50, 53, 53, 46, 50, 53, 53, 46, 50, 53, 53, 46, 48]⟩ : ByteArray)] from rfl) (Reps.one (show Kd.M Kd.string _ _ _ (⟨#[49, 48, 46, 48, 46, 48, 46, 49]⟩ : ByteArray) [.string (⟨#[49, 48, 46, 48, 46, 48, 46, 49]⟩ : ByteArray)] from rfl) (Reps.one (show Kd.M Kd.string _ _ _ (⟨#[49, 48, 46, 48, 46, 48, 46, 57]⟩ : ByteArray) [.string (⟨#[49, 48, 46, 48, 46, 48, 46, 57]⟩ : ByteArray)] from rfl) (Reps.one (show Kd.M Kd.string _ _ _ (⟨#[50, 48, 48, 49, 58, 100, 98, 56, 58, 58, 47, 54, 52]⟩ : ByteArray) [.string (⟨#[50, 48, 48, 49, 58, 100, 98, 56, 58, 58, 47, 54, 52]⟩ : ByteArray)] from rfl) (Reps.one (show Kd.M Kd.string _ _ _ (⟨#[50, 48, 48, 49, 58, 100, 98, 56, 58, 58, 53]⟩ : ByteArray) [.string (⟨#[50, 48, 48, 49, 58, 100, 98, 56, 58, 58, 53]⟩ : ByteArray)] from rfl) (Reps.one (show Kd.M Kd.string _ _ _ (⟨#[48, 48, 58, 48, 48, 58, 48, 48, 58, 48, 48, 58, 48, 48, 58, 48, 49]⟩ : ByteArray) [.string (⟨#[48, 48, 58, 48, 48, 58, 48, 48, 58, 48, 48, 58, 48, 48, 58, 48, 49]⟩ : ByteArray)] from rfl) (Reps.one (show Kd.M Kd.string _ _ _ (⟨#[97]⟩ : ByteArray) [.string (⟨#[97]⟩ : ByteArray)] from rfl) (Reps.one (show Kd.M Kd.string _ _ _ (⟨#[95]⟩ : ByteArray) [.string (⟨#[95]⟩ : ByteArray)] from rfl) (Reps.one (show Kd.M Kd.string _ _ _ (⟨#[51, 54, 48, 48]⟩ : ByteArray) [.string (⟨#[51, 54, 48, 48]⟩ : ByteArray)] from rfl) (Reps.one (show Kd.M Kd.string _ _ _ (⟨#[52]⟩ : ByteArray) [.string (⟨#[52]⟩ : ByteArray)] from rfl) (Reps.one (show Kd.M Kd.string _ _ _ (⟨#[50, 48, 50, 52, 47, 48, 50, 47, 50, 57]⟩ : ByteArray) [.string (⟨#[50, 48, 50, 52, 47, 48, 50, 47, 50, 57]⟩ : ByteArray)] from rfl) (Reps.one (show Kd.M Kd.string _ _ _ (⟨#[50, 51, 58, 53, 57, 58, 53, 57]⟩ : ByteArray) [.string (⟨#[50, 51, 58, 53, 57, 58, 53, 57]⟩ : ByteArray)] from rfl) (Reps.one (show Kd.M Kd.string _ _ _ (⟨#[34, 120, 32, 121, 34]⟩ : ByteArray) [.string (⟨#[34, 120, 32, 121, 34]⟩ : ByteArray)] from rfl) (Reps.one (show Kd.M Kd.string _ _ _ (⟨#[34, 97, 92, 34, 98, 34]⟩ : ByteArray) [.string (⟨#[34, 97, 92, 34, 98, 34]⟩ : ByteArray)] from rfl) (Reps.one (show Kd.M Kd.string _ _ _ (⟨#[34]⟩ : ByteArray) [.string (⟨#[34]⟩ : ByteArray)] from rfl) (Reps.one (show Kd.M Kd.string _ _ _ (⟨#[123]⟩ : ByteArray) [.string (⟨#[123]⟩ : ByteArray)] from rfl) (Reps.one (show Kd.M Kd.string _ _ _ (⟨#[125]⟩ : ByteArray) [.string (⟨#[125]⟩ : ByteArray)] from rfl) (Reps.one (show Kd.M Kd.string _ _ _ (⟨#[59]⟩ : ByteArray) [.string (⟨#[59]⟩ : ByteArray)] from rfl) (Reps.one (show Kd.M Kd.string _ _ _ (⟨#[44]⟩ : ByteArray) [.string (⟨#[44]⟩ : ByteArray)] from rfl) (Reps.one (show Kd.M Kd.string _ _ _ (⟨#[35]⟩ : ByteArray) [.string (⟨#[35]⟩ : ByteArray)] from rfl) (Reps.one (show Kd.M Kd.string _ _ _ (⟨#[10]⟩ : ByteArray) [.string (⟨#[10]⟩ : ByteArray)] from rfl) (Reps.one (show Kd.M Kd.string _ _ _ (⟨#[61]⟩ : ByteArray) [.string (⟨#[61]⟩ : ByteArray)] from rfl) (Reps.one (show Kd.M Kd.string _ _ _ (⟨#[92]⟩ : ByteArray) [.string (⟨#[92]⟩ : ByteArray)] from rfl) (Reps.one (show Kd.M Kd.string _ _ _ (⟨#[195, 169]⟩ : ByteArray) [.string (⟨#[195, 169]⟩ : ByteArray)] from rfl) (Reps.none _ _)))))))))))))))))))))))))))))))))))))))))))); intro v271 w2 ho3 hb hg_ hnew_; clear hg_ hnew_; (first | rw [← Ny270.out] at ho3 | (simp only [Int.reduceToNat] at ho3; rw [← Ny270.out] at ho3)); have n0_ := Aside0.mk (Kd.R_lower ho3 (below_size (by repeat (first | (with_reducible first | exact HB.out | apply below_alloc | apply pw_below_drewN | apply below_drew1) | exact HB.out)))); have n1_ := Aside0.mk (below_step (by repeat (first | (with_reducible first | exact HB.out | apply below_alloc | apply pw_below_drewN | apply below_drew1) | exact HB.out)) hb); clear HB; have HO272 := n0_; have HB := n1_; clear n0_ n1_; clear hb ho3))
  go_loopg [4, 5] k (fun kq v4 v5 w' => ∃ (x4_1 : List Int) (x5_1 : Int), v5 = .int .i64 x5_1 ∧ Aside0 (glebelaw8_Text.l0 kq l0 y270 x4_1 x5_1 = some r) ∧ Aside0 (kq ≤ k) ∧ Aside0 (Kd.R Kd.string 9 w' w.heap.size (fun _ => True) v271 y270) ∧ Aside0 (Kd.R (Kd.int .u8) 5 w' w.heap.size (fun _ => True) v4 x4_1) ∧ Aside0 (Below w.heap.size w w'))
  case atStart => exact ⟨(([] : List Int)), (0), (by first | rfl | (simp; done) | (simp [*]; done)), H', ⟨Nat.le_refl _⟩, ⟨by (with_reducible repeat (first | apply Kd.R_alloc | apply Kd.R_drewN | apply Kd.R_drew)); exact HO272.out⟩, ⟨by first | exact Kd.R_nil _ _ _ _ _ | exact Kd.N_nil _ _ _ _ _ | exact Kd.V_nil _ _ _ _ _ | exact Kd.Q_nil _ _ _ _ _ | exact Kd.S_nil _ _ _ _ _⟩, ⟨by repeat (first | (with_reducible first | exact HB.out | apply below_alloc | apply pw_below_drewN | apply below_drew1) | exact HB.out)⟩⟩
  case round =>
    clear H'
    try clear c1
    try clear p2
    obtain ⟨x4_1, x5_1, rfl, HA, HK1, HO_3, HO_4, HB⟩ := hrel
    cases gk with
    | zero => exact absurd HA.out (by simp [glebelaw8_Text.l0])
    | succ k1 =>
      have H := HA.out
      clear HA
      simp only [glebelaw8_Text.l0] at H
      by_cases c4 : x5_1 < (l0.length : Int)
      · rw [if_pos c4] at H
        have c4b0 : decide (x5_1 < (l0.length : Int)) = true := decide_eq_true c4
        clear c4
        by_cases c5 : x5_1 < 60
        · rw [if_pos c5] at H
          have c5b0 : decide (x5_1 < 60) = true := decide_eq_true c5
          clear c5
          by_cases c6 : 0 ≤ x5_1
          · rw [if_pos c6] at H
            have c6b0 : decide (0 ≤ x5_1) = true := decide_eq_true c6
            clear c6
            by_cases c7 : (y270.length : Int) = 0
            · rw [if_pos c7] at H
              exact absurd H (by simp)
            · rw [if_neg c7] at H
              have c7b0 : ((y270.length : Int) == 0) = false := beq_eq_false_iff_ne.mpr c7
              have c7b1 : ((y270.length : Int) != 0) = true := bne_iff_ne.mpr c7
              have c7b2 : ¬ (y270 = []) := fun h_ => c7 (by rw [h_]; rfl)
              obtain ⟨ji8, hji8⟩ : ∃ j_ : Int, (Int.tmod (Go.bits .and .i64 (rd l0 x5_1) 65535) (y270.length : Int)) = j_ := ⟨_, rfl⟩
              replace H : (if 0 ≤ (ji8) then (if (ji8) < (y270.length : Int) then (if x4_1.length + (rdOf ByteArray.empty y270 (ji8)).size < 140737488355328 then ((some (x4_1 ++ bytesOf (rdOf ByteArray.empty y270 (ji8)) : List Int)).bind fun y275 => (if 0 ≤ (Go.bits .and .i64 ((rd l0 x5_1) / 65536) 3) then (if (Go.bits .and .i64 ((rd l0 x5_1) / 65536) 3) < 4 then (if y275.length < 140737488355328 then (glebelaw8_Text.l0 k1 l0 y270 (y275 ++ [bt (⟨#[32, 10, 9, 32]⟩ : ByteArray) (Go.bits .and .i64 ((rd l0 x5_1) / 65536) 3)]) (wrap64 (x5_1 + 1))) else (none)) else (none)) else (none))) else (none)) else (none)) else (none)) = some r := by first | (rw [hji8] at H; exact H) | (simp only [hji8] at H ⊢; exact H)
              by_cases c9 : 0 ≤ (ji8)
              · rw [if_pos c9] at H
                have c9b0 : decide (0 ≤ (ji8)) = true := decide_eq_true c9
                clear c9
                by_cases c10 : (ji8) < (y270.length : Int)
                · rw [if_pos c10] at H
                  have c10b0 : decide ((ji8) < (y270.length : Int)) = true := decide_eq_true c10
                  clear c10
                  by_cases c11 : x4_1.length + (rdOf ByteArray.empty y270 (ji8)).size < 140737488355328
                  · rw [if_pos c11] at H
                    have LMc11 := Aside0.mk c11
                    clear c11
                    obtain ⟨y275, hy275⟩ : ∃ y_ : List Int, y_ = (x4_1 ++ bytesOf (rdOf ByteArray.empty y270 (ji8))) := ⟨_, rfl⟩
                    replace H : (if 0 ≤ (Go.bits .and .i64 ((rd l0 x5_1) / 65536) 3) then (if (Go.bits .and .i64 ((rd l0 x5_1) / 65536) 3) < 4 then (if y275.length < 140737488355328 then (glebelaw8_Text.l0 k1 l0 y270 (y275 ++ [bt (⟨#[32, 10, 9, 32]⟩ : ByteArray) (Go.bits .and .i64 ((rd l0 x5_1) / 65536) 3)]) (wrap64 (x5_1 + 1))) else (none)) else (none)) else (none)) = some r := by first | (rw [hy275]; with_reducible exact H) | (have H2_ := (Option.bind_some _ _).symm.trans H; rw [hy275]; with_reducible exact H2_) | (have H2_ := (Option.bind_some _ _).symm.trans H; with_reducible exact H2_) | with_reducible exact H | (rw [hy275]; exact H) | exact H
                    have Ny275 := Aside0.mk hy275
                    clear hy275
                    obtain ⟨ji12, hji12⟩ : ∃ j_ : Int, (Go.bits .and .i64 ((rd l0 x5_1) / 65536) 3) = j_ := ⟨_, rfl⟩
                    replace H : (if 0 ≤ (ji12) then (if (ji12) < 4 then (if y275.length < 140737488355328 then (glebelaw8_Text.l0 k1 l0 y270 (y275 ++ [bt (⟨#[32, 10, 9, 32]⟩ : ByteArray) (ji12)]) (wrap64 (x5_1 + 1))) else (none)) else (none)) else (none)) = some r := by first | (rw [hji12] at H; exact H) | (simp only [hji12] at H ⊢; exact H)
                    by_cases c13 : 0 ≤ (ji12)
                    · rw [if_pos c13] at H
                      have c13b0 : decide (0 ≤ (ji12)) = true := decide_eq_true c13
                      clear c13
                      by_cases c14 : (ji12) < 4
                      · rw [if_pos c14] at H
                        have c14b0 : decide ((ji12) < 4) = true := decide_eq_true c14
                        clear c14
                        by_cases c16 : y275.length < 140737488355328
                        · rw [if_pos c16] at H
                          have LMc16 := Aside0.mk c16
                          clear c16
                          obtain ⟨y279, hy279⟩ : ∃ y_ : List Int, y_ = (y275 ++ [bt (⟨#[32, 10, 9, 32]⟩ : ByteArray) (ji12)]) := ⟨_, rfl⟩
                          replace H : (glebelaw8_Text.l0 k1 l0 y270 y279 (wrap64 (x5_1 + 1))) = some r := by first | (rw [hy279]; with_reducible exact H) | (have H2_ := (Option.bind_some _ _).symm.trans H; rw [hy279]; with_reducible exact H2_) | (have H2_ := (Option.bind_some _ _).symm.trans H; with_reducible exact H2_) | with_reducible exact H | (rw [hy279]; exact H) | exact H
                          have Ny279 := Aside0.mk hy279
                          clear hy279
                          have H' := Aside0.mk H
                          clear H
                          have p273 : 0 ≤ (x5_1 : Int) := of_decide_eq_true (by first | (with_reducible assumption) | assumption)
                          have q273 : x5_1 < (l0.length : Int) := of_decide_eq_true (by first | (with_reducible assumption) | assumption)
                          obtain ⟨ad273, e273, hx273_0⟩ := Kd.at_int HR0.out x5_1 p273 q273
                          cases e273
                          replace hx273_0 := (HB.out.cell (World.block_lt_of_cell? w _ hx273_0)).trans hx273_0
                          replace p273 := eq_true p273
                          replace q273 := eq_true q273
                          obtain ⟨Ao17, co17, eo17⟩ := Kd.R_slice HO_3.out
                          subst eo17
                          have p274 : 0 ≤ ((ji8) : Int) := of_decide_eq_true (by first | (with_reducible assumption) | assumption)
                          have q274 : (ji8) < (y270.length : Int) := of_decide_eq_true (by first | (with_reducible assumption) | assumption)
                          obtain ⟨ad274, e274, hx274_0⟩ := Kd.at_string (Kd.R_reads' HO_3.out).2.2 (ji8) p274 q274
                          cases e274
                          replace p274 := eq_true p274
                          replace q274 := eq_true q274
                          go_wp2_with (first | (at_builtin; refine print_append_str (w0 := w) w.heap.size rfl (.tmp 17) _ 29 9 5 rfl Try.underlying29 Try.underlying9 info5 u4 x4_1 (rdOf ByteArray.empty y270 (ji8)) rfl rfl ?aO ?aB ?aS ?aL ?_; (case aB => exact (by repeat (first | (with_reducible first | exact HB.out | apply below_alloc | apply pw_below_drewN | apply below_drew1) | exact HB.out))); (case aO => exact (Kd.own_of_R (by (with_reducible repeat (first | apply Kd.R_alloc | apply Kd.R_drewN | apply Kd.R_drew)); exact HO_4.out))); (case aS => exact (below_size (by repeat (first | (with_reducible first | exact HB.out | apply below_alloc | apply pw_below_drewN | apply below_drew1) | exact HB.out)))); (case aL => have := LMc11.out; omega); intro v276 w18 ho0 hb hg; have ho := Kd.R_of_own (h1 := fun _ => rfl) (ok := fun _ => True) ho0 (fun _ _ => trivial); clear ho0; have hat := True.intro; rw [← Ny275.out] at ho; change Kd.R (Kd.int .u8) 5 w18 w.heap.size (fun _ => True) v276 y275 at ho; have n0_ := Aside0.mk (Kd.R_over' (by (with_reducible repeat (first | apply Kd.R_alloc | apply Kd.R_drewN | apply Kd.R_drew)); exact HO_3.out) (Kd.R_typed (by (with_reducible repeat (first | apply Kd.R_alloc | apply Kd.R_drewN | apply Kd.R_drew)); exact HO_4.out)) (by decide) hg); have n1_ := Aside0.mk (hb); have n2_ := Aside0.mk (ho); clear HO_3; clear HB; clear HO_4; have HO_3 := n0_; have HB := n1_; have HO277 := n2_; clear n0_ n1_ n2_; clear ho hb hg hat; have p278 : 0 ≤ (x5_1 : Int) := of_decide_eq_true (by first | (with_reducible assumption) | assumption); have q278 : x5_1 < (l0.length : Int) := of_decide_eq_true (by first | (with_reducible assumption) | assumption); obtain ⟨ad278, e278, hx278_0⟩ := Kd.at_int HR0.out x5_1 p278 q278; obtain rfl : ad273 = ad278 := (by injection e278); replace hx278_0 := (HB.out.cell (World.block_lt_of_cell? w _ hx278_0)).trans hx278_0; replace p278 := eq_true p278; replace q278 := eq_true q278; have p15 : 0 ≤ ((ji12) : Int) := of_decide_eq_true (by first | (with_reducible assumption) | assumption); have q15 : (ji12) < (4 : Int) := of_decide_eq_true (by first | (with_reducible assumption) | assumption); have hx15 := bt_at (⟨#[32, 10, 9, 32]⟩ : ByteArray) (ji12); replace p15 := eq_true p15; replace q15 := eq_true q15) | ((with_reducible refine gate_builtin (b := .append) (xs := #[.tmp 30, .tmp 38]) rfl ?_); at_builtin; refine Kd.R_append (Kd.int .u8) (w0 := w) w.heap.size rfl (.tmp 30) (.tmp 38) 29 5 (.int .u8 0) 1 rfl Try.underlying29 info5 rfl (by decide) (by omega) v276 y275 (bt (⟨#[32, 10, 9, 32]⟩ : ByteArray) (ji12)) [.int .u8 (bt (⟨#[32, 10, 9, 32]⟩ : ByteArray) (ji12))] (fun _ => True) (fun _ => False) rfl rfl ?aP (fun _ hk => hk.elim) ?aF ?aO ?aB ?aS ?aL ?_; (case aP => exact rfl); (case aB => exact (by repeat (first | (with_reducible first | exact HB.out | apply below_alloc | apply pw_below_drewN | apply below_drew1) | exact HB.out))); (case aF => exact (fun _ _ => trivial)); (case aO => exact (by (with_reducible repeat (first | apply Kd.R_alloc | apply Kd.R_drewN | apply Kd.R_drew)); exact HO277.out)); (case aS => exact (below_size (by repeat (first | (with_reducible first | exact HB.out | apply below_alloc | apply pw_below_drewN | apply below_drew1) | exact HB.out)))); (case aL => have := LMc16.out; omega); intro v280 w19 ho hb hg hat; rw [← Ny279.out] at ho; have n0_ := Aside0.mk (Kd.R_over' (by (with_reducible repeat (first | apply Kd.R_alloc | apply Kd.R_drewN | apply Kd.R_drew)); exact HO_3.out) (Kd.R_typed (by (with_reducible repeat (first | apply Kd.R_alloc | apply Kd.R_drewN | apply Kd.R_drew)); exact HO277.out)) (by decide) hg); have n1_ := Aside0.mk (hb); have n2_ := Aside0.mk (ho); clear HO_3; clear HB; clear HO277; have HO_3 := n0_; have HB := n1_; have HO281 := n2_; clear n0_ n1_ n2_; clear ho hb hg hat))
                          go_roundg k1
                          case measure => have := HK1.out; omega
                          case rel => exact ⟨(y279), (wrap64 (x5_1 + 1)), (by first | rfl | (simp; done) | (simp [*]; done)), H', ⟨by have := HK1.out; omega⟩, ⟨by (with_reducible repeat (first | apply Kd.R_alloc | apply Kd.R_drewN | apply Kd.R_drew)); exact HO_3.out⟩, ⟨by (with_reducible repeat (first | apply Kd.R_alloc | apply Kd.R_drewN | apply Kd.R_drew)); exact HO281.out⟩, ⟨by repeat (first | (with_reducible first | exact HB.out | apply below_alloc | apply pw_below_drewN | apply below_drew1) | exact HB.out)⟩⟩
                        · rw [if_neg c16] at H
                          exact absurd H (by simp)
                      · rw [if_neg c14] at H
                        exact absurd H (by simp)
                    · rw [if_neg c13] at H
                      exact absurd H (by simp)
                  · rw [if_neg c11] at H
                    exact absurd H (by simp)
                · rw [if_neg c10] at H
                  exact absurd H (by simp)
              · rw [if_neg c9] at H
                exact absurd H (by simp)
          · rw [if_neg c6] at H
            exact absurd H (by simp)
        · rw [if_neg c5] at H
          have c5b0 : decide (x5_1 < 60) = false := decide_eq_false c5
          clear c5
          obtain rfl := Option.some.inj H
          go_wp2
          go_ret
          exact ⟨_, by first | rfl | (simp [errW_none, errW_some] <;> rfl) | (simp [*, errW_none, errW_some] <;> rfl), by (with_reducible repeat (first | apply Kd.R_alloc | apply Kd.R_drewN | apply Kd.R_drew)); exact HO_4.out, by repeat (first | (with_reducible first | exact HB.out | apply below_alloc | apply pw_below_drewN | apply below_drew1) | exact HB.out)⟩
      · rw [if_neg c4] at H
        have c4b0 : decide (x5_1 < (l0.length : Int)) = false := decide_eq_false c4
        clear c4
        obtain rfl := Option.some.inj H
        go_wp2
        go_ret
        exact ⟨_, by first | rfl | (simp [errW_none, errW_some] <;> rfl) | (simp [*, errW_none, errW_some] <;> rfl), by (with_reducible repeat (first | apply Kd.R_alloc | apply Kd.R_drewN | apply Kd.R_drew)); exact HO_4.out, by repeat (first | (with_reducible first | exact HB.out | apply below_alloc | apply pw_below_drewN | apply below_drew1) | exact HB.out)⟩

/-! ### gleberef7_Long: function 34 -/
def gleberef7_Long.f (l0 : List Int) : Option (Int × Int × Bool) := if (l0.length : Int) > 1000000 then (some (2, 1000000, true)) else (some (0, 0, false))
set_option maxHeartbeats 8000000 in
set_option maxRecDepth 100000 in
theorem gleberef7_Long.calls (A0 : Option Addr) (c0 : Nat) (l0 : List Int) (r1 : Int) (r2 : Int) (r3 : Bool) (w : World) (hr0 : Kd.C (Kd.int .u8) w A0 l0.length l0) (hc0 : l0.length ≤ c0) (h : gleberef7_Long.f l0 = some (r1, r2, r3)) :
    Calls Try.prog 34 #[.slice A0 l0.length c0] w fun e w' => e = .returned (.tuple #[.agg #[.int .i64 r1, .int .i64 r2], .bool r3]) ∧ Below w.heap.size w w' := by
  have hu26 := Try.underlying26
  have HR0 := Aside0.mk hr0
  have HC0 := Aside0.mk hc0
  clear hr0 hc0
  have HB := Aside0.mk (Below.refl w.heap.size w)
  have H : (if (l0.length : Int) > 1000000 then (some (2, 1000000, true)) else (some (0, 0, false))) = some (r1, r2, r3) := h
  clear h
  by_cases c2 : (l0.length : Int) > 1000000
  · rw [if_pos c2] at H
    have c2b0 : decide (1000000 < (l0.length : Int)) = true := decide_eq_true c2
    have c2b1 : decide (1000000 < l0.length) = true := decide_eq_true (by omega)
    clear c2
    simp only [Option.some.injEq, Prod.mk.injEq] at H
    obtain ⟨rfl, rfl, rfl⟩ := H
    go_enter Try.func34, Try.ntmps34
    go_wp2_with (first | ((with_reducible refine gate_dst (N := 2) rfl ?_); refine box_event ?hg (N := 2) ?hd (cs := #[.int .i64 0, .int .i64 0]) (t := 26) ?hr ?_; (case hd => rfl); (case hg => rfl); (case hr => first | (go_simp; done) | (go_simp; rfl)); intro gb282 hg w3 hbox hb; have n0_ := Aside0.mk (below_step (by repeat (first | (with_reducible first | exact HB.out | apply below_alloc | apply pw_below_drewN | apply below_drew1) | exact HB.out)) hb); have n1_ := Aside0.mk (hbox); have n2_ := Aside0.mk ((by rw [hg]; exact (below_size (by repeat (first | (with_reducible first | exact HB.out | apply below_alloc | apply pw_below_drewN | apply below_drew1) | exact HB.out))) : w.heap.size ≤ gb282)); have n3_ := Aside0.mk ((by rw [hg]; exact (below_size (by repeat (first | (with_reducible first | exact HB.out | apply below_alloc | apply pw_below_drewN | apply below_drew1) | exact HB.out))) : w.heap.size ≤ gb282)); clear HB; have HB := n0_; have BK282 := n1_; have GW282 := n2_; have GE282 := n3_; clear n0_ n1_ n2_ n3_; clear hb hbox hg; have hcz4_0 : w3.cell? ⟨gb282, 0, none⟩ = some (.int .i64 0) := (blk_cell BK282.out 0).trans rfl; have hcz4_1 : w3.cell? ⟨gb282, 1, none⟩ = some (.int .i64 0) := (blk_cell BK282.out 1).trans rfl; have hfz4_0 := blk_frozen BK282.out 0; have hfz4_1 := blk_frozen BK282.out 1))
    refine bodyPost_ret (results_ct rfl _ _ gb282 26 #[.int .i64 2, .int .i64 1000000] (0, 0) _ rfl (by (with_reducible repeat (first | refine blk_drewN ?_ _ | refine blk_drew ?_ | refine blk_alloc ?_ _)); refine blk_put (cs := #[.int .i64 2, .int .i64 0]) ?_ 1 _ rfl; (with_reducible repeat (first | refine blk_drewN ?_ _ | refine blk_drew ?_ | refine blk_alloc ?_ _)); refine blk_put (cs := #[.int .i64 0, .int .i64 0]) ?_ 0 _ rfl; (with_reducible repeat (first | refine blk_drewN ?_ _ | refine blk_drew ?_ | refine blk_alloc ?_ _)); exact BK282.out) Try.underlying26 rfl (by kernel_rfl)) rfl ?_
    exact ⟨by first | rfl | (simp [errW_none, errW_some] <;> rfl) | (simp [*, errW_none, errW_some] <;> rfl), by repeat (first | (with_reducible first | exact HB.out | apply below_alloc | apply pw_below_drewN | apply below_drew1 | refine below_set ?_ GE282.out) | exact HB.out)⟩
  · rw [if_neg c2] at H
    have c2b0 : decide (1000000 < (l0.length : Int)) = false := decide_eq_false c2
    have c2b1 : decide (1000000 < l0.length) = false := decide_eq_false (by omega)
    clear c2
    simp only [Option.some.injEq, Prod.mk.injEq] at H
    obtain ⟨rfl, rfl, rfl⟩ := H
    go_enter Try.func34, Try.ntmps34
    go_wp2_with (first | ((with_reducible refine gate_dst (N := 2) rfl ?_); refine box_event ?hg (N := 2) ?hd (cs := #[.int .i64 0, .int .i64 0]) (t := 26) ?hr ?_; (case hd => rfl); (case hg => rfl); (case hr => first | (go_simp; done) | (go_simp; rfl)); intro gb282 hg w5 hbox hb; have n0_ := Aside0.mk (below_step (by repeat (first | (with_reducible first | exact HB.out | apply below_alloc | apply pw_below_drewN | apply below_drew1) | exact HB.out)) hb); have n1_ := Aside0.mk (hbox); have n2_ := Aside0.mk ((by rw [hg]; exact (below_size (by repeat (first | (with_reducible first | exact HB.out | apply below_alloc | apply pw_below_drewN | apply below_drew1) | exact HB.out))) : w.heap.size ≤ gb282)); have n3_ := Aside0.mk ((by rw [hg]; exact (below_size (by repeat (first | (with_reducible first | exact HB.out | apply below_alloc | apply pw_below_drewN | apply below_drew1) | exact HB.out))) : w.heap.size ≤ gb282)); clear HB; have HB := n0_; have BK282 := n1_; have GW282 := n2_; have GE282 := n3_; clear n0_ n1_ n2_ n3_; clear hb hbox hg; have hcz6_0 : w5.cell? ⟨gb282, 0, none⟩ = some (.int .i64 0) := (blk_cell BK282.out 0).trans rfl; have hcz6_1 : w5.cell? ⟨gb282, 1, none⟩ = some (.int .i64 0) := (blk_cell BK282.out 1).trans rfl; have hfz6_0 := blk_frozen BK282.out 0; have hfz6_1 := blk_frozen BK282.out 1))
    refine bodyPost_ret (results_ct rfl _ _ gb282 26 #[.int .i64 0, .int .i64 0] (0, 0) _ rfl (by (with_reducible repeat (first | refine blk_drewN ?_ _ | refine blk_drew ?_ | refine blk_alloc ?_ _)); refine blk_put (cs := #[.int .i64 0, .int .i64 0]) ?_ 1 _ rfl; (with_reducible repeat (first | refine blk_drewN ?_ _ | refine blk_drew ?_ | refine blk_alloc ?_ _)); refine blk_put (cs := #[.int .i64 0, .int .i64 0]) ?_ 0 _ rfl; (with_reducible repeat (first | refine blk_drewN ?_ _ | refine blk_drew ?_ | refine blk_alloc ?_ _)); exact BK282.out) Try.underlying26 rfl (by kernel_rfl)) rfl ?_
    exact ⟨by first | rfl | (simp [errW_none, errW_some] <;> rfl) | (simp [*, errW_none, errW_some] <;> rfl), by repeat (first | (with_reducible first | exact HB.out | apply below_alloc | apply pw_below_drewN | apply below_drew1 | refine below_set ?_ GE282.out) | exact HB.out)⟩

end Go.Proofs.Ytnkcffmklomfhaa.X
