-- Printed by this session's own program (wip/xprint) out of the translation. Lean checks it.
import Derived.Test.YtcgchblljhbdaaaDoorZx0
import Derived.Test.YtcgchblljhbdaaaDoorZx2
namespace Go.Proofs.YtcgchblljhbdaaaDoor.Z
open Go.Proofs.YtcgchblljhbdaaaDoor
open Go.RowKit Go.Proofs.YtcgchblljhbdaaaDoorW.PrintWords Go.Proofs.YtcgchblljhbdaaaDoorW.PrintLast Go.Proofs.YtcgchblljhbdaaaDoorW.PrintMore
attribute [local go_sem] max2_int min2_int max_two min_two max_three min_three max_four min_four   -- for this text's walks alone
set_option linter.unusedVariables false
set_option linter.unusedSimpArgs false

/-! ### date_Num: function 20 -/
mutual
def date_Num.j0 : Nat → ByteArray → Int → Bool → Option (Int × Bool)
  | 0, _, _, _ => none
  | k + 1, x0, x1, x21 => if x21 = true then (some (0, false)) else (if x0.size ≤ 9223372036854775807 then ((some (bytesOf x0 : List Int)).bind fun y136 => (date_Num.l0 k x1 0 y136 (y136.length : Int) 0)) else (none))
def date_Num.l0 : Nat → Int → Int → List Int → Int → Int → Option (Int × Bool)
  | 0, _, _, _, _, _ => none
  | k + 1, x1, x6, x23, x24, x25 => if x25 < x24 then (if 0 ≤ x25 then (if x25 < (x23.length : Int) then (if (rd x23 x25) < 48 then (date_Num.j2 k x1 x6 (rd x23 x25) x23 x24 x25 true) else (date_Num.j2 k x1 x6 (rd x23 x25) x23 x24 x25 (decide ((rd x23 x25) > 57)))) else (none)) else (none)) else (if x6 > x1 then (some (0, false)) else (some (x6, true)))
def date_Num.j2 : Nat → Int → Int → Int → List Int → Int → Int → Bool → Option (Int × Bool)
  | 0, _, _, _, _, _, _, _ => none
  | k + 1, x1, x6, x8, x23, x24, x25, x34 => if x34 = true then (some (0, false)) else (if x6 > (IntKind.u64.wrap (Int.tdiv x1 10)) then (some (0, false)) else (if (IntKind.u64.wrap (10 * x6)) > (IntKind.u64.wrap (x1 - (mn ((x8 - 48) % 256) x1))) then (some (0, false)) else (date_Num.l0 k x1 (IntKind.u64.wrap ((IntKind.u64.wrap (10 * x6)) + ((x8 - 48) % 256))) x23 x24 (wrap64 (x25 + 1)))))
end
def date_Num.f (k : Nat) (a0 : ByteArray) (a1 : Int) : Option (Int × Bool) := if a0.toList = ([] : List UInt8) then (date_Num.j0 k a0 a1 true) else (if 0 < (a0.size : Int) then (if (bt a0 0) = 48 then (date_Num.j0 k a0 a1 (decide ((a0.size : Int) > 1))) else (date_Num.j0 k a0 a1 false)) else (none))
theorem date_Num.mono_l : ∀ k, (∀ y0 y1 y2, LeO (date_Num.j0 k y0 y1 y2) (date_Num.j0 (k + 1) y0 y1 y2)) ∧ (∀ y0 y1 y2 y3 y4, LeO (date_Num.l0 k y0 y1 y2 y3 y4) (date_Num.l0 (k + 1) y0 y1 y2 y3 y4)) ∧ (∀ y0 y1 y2 y3 y4 y5 y6, LeO (date_Num.j2 k y0 y1 y2 y3 y4 y5 y6) (date_Num.j2 (k + 1) y0 y1 y2 y3 y4 y5 y6))
  | 0 => ⟨fun _ _ _ r h => by simp [date_Num.j0] at h, fun _ _ _ _ _ r h => by simp [date_Num.l0] at h, fun _ _ _ _ _ _ _ r h => by simp [date_Num.j2] at h⟩
  | k + 1 => by
    obtain ⟨ih0, ih1, ih2⟩ := date_Num.mono_l k
    refine ⟨?_, ?_, ?_⟩
    · intro y0 y1 y2
      unfold date_Num.j0
      repeat' first
      | (with_reducible exact ih0 _ _ _)
      | (with_reducible exact ih1 _ _ _ _ _)
      | (with_reducible exact ih2 _ _ _ _ _ _ _)
      | (with_reducible exact LeO.refl _)
      | (with_reducible exact LeO.none _)
      | (with_reducible refine LeO.ite ?_ ?_)
      | (with_reducible refine LeO.bind ?_ (fun _ => ?_))
      | exact ih0 _ _ _
      | exact ih1 _ _ _ _ _
      | exact ih2 _ _ _ _ _ _ _
      | exact LeO.none _
      | refine LeO.ite ?_ ?_
      | refine LeO.bind ?_ (fun _ => ?_)
    · intro y0 y1 y2 y3 y4
      unfold date_Num.l0
      repeat' first
      | (with_reducible exact ih0 _ _ _)
      | (with_reducible exact ih1 _ _ _ _ _)
      | (with_reducible exact ih2 _ _ _ _ _ _ _)
      | (with_reducible exact LeO.refl _)
      | (with_reducible exact LeO.none _)
      | (with_reducible refine LeO.ite ?_ ?_)
      | (with_reducible refine LeO.bind ?_ (fun _ => ?_))
      | exact ih0 _ _ _
      | exact ih1 _ _ _ _ _
      | exact ih2 _ _ _ _ _ _ _
      | exact LeO.none _
      | refine LeO.ite ?_ ?_
      | refine LeO.bind ?_ (fun _ => ?_)
    · intro y0 y1 y2 y3 y4 y5 y6
      unfold date_Num.j2
      repeat' first
      | (with_reducible exact ih0 _ _ _)
      | (with_reducible exact ih1 _ _ _ _ _)
      | (with_reducible exact ih2 _ _ _ _ _ _ _)
      | (with_reducible exact LeO.refl _)
      | (with_reducible exact LeO.none _)
      | (with_reducible refine LeO.ite ?_ ?_)
      | (with_reducible refine LeO.bind ?_ (fun _ => ?_))
      | exact ih0 _ _ _
      | exact ih1 _ _ _ _ _
      | exact ih2 _ _ _ _ _ _ _
      | exact LeO.none _
      | refine LeO.ite ?_ ?_
      | refine LeO.bind ?_ (fun _ => ?_)
theorem date_Num.mono : ∀ a0 a1 k, LeO (date_Num.f k a0 a1) (date_Num.f (k + 1) a0 a1) := by
  intro a0 a1 k
  obtain ⟨ih0, ih1, ih2⟩ := date_Num.mono_l k
  unfold date_Num.f
  repeat' first
      | (with_reducible exact ih0 _ _ _)
      | (with_reducible exact ih1 _ _ _ _ _)
      | (with_reducible exact ih2 _ _ _ _ _ _ _)
      | (with_reducible exact LeO.refl _)
      | (with_reducible exact LeO.none _)
      | (with_reducible refine LeO.ite ?_ ?_)
      | (with_reducible refine LeO.bind ?_ (fun _ => ?_))
      | exact ih0 _ _ _
      | exact ih1 _ _ _ _ _
      | exact ih2 _ _ _ _ _ _ _
      | exact LeO.none _
      | refine LeO.ite ?_ ?_
      | refine LeO.bind ?_ (fun _ => ?_)
set_option maxHeartbeats 8000000 in
set_option maxRecDepth 100000 in
theorem date_Num.calls (k : Nat) (a0 : ByteArray) (a1 : Int) (r1 : Int) (r2 : Bool) (w : World) (h : date_Num.f k a0 a1 = some (r1, r2)) :
    Calls Tryd.prog 20 #[.string a0, .int .u64 a1] w fun e w' => e = .returned (.tuple #[.int .u64 r1, .bool r2]) ∧ Below w.heap.size w w' := by
  have HB := Aside0.mk (Below.refl w.heap.size w)
  have H : (if a0.toList = ([] : List UInt8) then (date_Num.j0 k a0 a1 true) else (if 0 < (a0.size : Int) then (if (bt a0 0) = 48 then (date_Num.j0 k a0 a1 (decide ((a0.size : Int) > 1))) else (date_Num.j0 k a0 a1 false)) else (none))) = some (r1, r2) := h
  clear h
  have HC3 := Aside0.mk H
  clear H
  go_enter Tryd.func20, Tryd.ntmps20
  go_upto_region 1 with (fail)
  go_cut [21] (fun v21 wc => ∃ (kq : Nat) (x21_2 : Bool), v21 = .bool x21_2 ∧ Aside0 (date_Num.j0 kq a0 a1 x21_2 = some (r1, r2)) ∧ Aside0 (kq ≤ k) ∧ Aside0 (Below w.heap.size w wc))
  case first =>
    have H := HC3.out
    clear HC3
    by_cases c4 : a0.toList = ([] : List UInt8)
    · rw [if_pos c4] at H
      have c4b0 : (a0.toList == ([] : List UInt8)) = true := beq_iff_eq.mpr c4
      have c4b1 : (a0.toList != ([] : List UInt8)) = false := bne_eq_false_iff_eq.mpr c4
      clear c4
      (first | rw [c4b0] | (simp only [i64_w, i32_w]; rw [c4b0]) | skip)
      have H' := Aside0.mk H
      clear H
      go_wp2
      go_meet
      case rel => exact ⟨_, (true), (by first | rfl | (simp only [i64_w]; done) | (simp; done) | (simp [*]; done)), H', ⟨by first | omega | exact Nat.le_refl _⟩, ⟨by repeat (first | (with_reducible first | exact HB.out | apply below_alloc | apply pw_below_drewN | apply below_drew1) | exact HB.out)⟩⟩
    · rw [if_neg c4] at H
      have c4b0 : (a0.toList == ([] : List UInt8)) = false := beq_eq_false_iff_ne.mpr c4
      have c4b1 : (a0.toList != ([] : List UInt8)) = true := bne_iff_ne.mpr c4
      (first | rw [c4b0] | (simp only [i64_w, i32_w]; rw [c4b0]) | skip)
      by_cases c5 : 0 < (a0.size : Int)
      · rw [if_pos c5] at H
        have c5b0 : decide (0 < (a0.size : Int)) = true := decide_eq_true c5
        have c5b1 : decide (0 < a0.size) = true := decide_eq_true (by omega)
        clear c5
        by_cases c7 : (bt a0 0) = 48
        · rw [if_pos c7] at H
          have c7b0 : ((bt a0 0) == 48) = true := beq_iff_eq.mpr c7
          have c7b1 : ((bt a0 0) != 48) = false := bne_eq_false_iff_eq.mpr c7
          clear c7
          have H' := Aside0.mk H
          clear H
          have p6 : 0 ≤ (0 : Int) := (by omega)
          have q6 : 0 < a0.size := (by have : (0 : Int) < (a0.size : Int) := of_decide_eq_true (by first | (with_reducible assumption) | assumption); omega)
          have hx6 : ∀ h : 0 < a0.size, ((a0[0]'h).toNat : Int) = bt a0 0 := bt_at a0 0
          clear p6
          have qi6 : (0 < (a0.size : Int)) = True := eq_true (of_decide_eq_true (by first | (with_reducible assumption) | assumption))
          replace q6 := eq_true q6
          go_wp2
          go_meet
          case rel => exact ⟨_, (decide ((a0.size : Int) > 1)), (by first | rfl | (simp only [i64_w]; done) | (simp; done) | (simp [*]; done)), H', ⟨by first | omega | exact Nat.le_refl _⟩, ⟨by repeat (first | (with_reducible first | exact HB.out | apply below_alloc | apply pw_below_drewN | apply below_drew1) | exact HB.out)⟩⟩
        · rw [if_neg c7] at H
          have c7b0 : ((bt a0 0) == 48) = false := beq_eq_false_iff_ne.mpr c7
          have c7b1 : ((bt a0 0) != 48) = true := bne_iff_ne.mpr c7
          have H' := Aside0.mk H
          clear H
          have p6 : 0 ≤ (0 : Int) := (by omega)
          have q6 : 0 < a0.size := (by have : (0 : Int) < (a0.size : Int) := of_decide_eq_true (by first | (with_reducible assumption) | assumption); omega)
          have hx6 : ∀ h : 0 < a0.size, ((a0[0]'h).toNat : Int) = bt a0 0 := bt_at a0 0
          clear p6
          have qi6 : (0 < (a0.size : Int)) = True := eq_true (of_decide_eq_true (by first | (with_reducible assumption) | assumption))
          replace q6 := eq_true q6
          go_wp2
          go_meet
          case rel => exact ⟨_, (false), (by first | rfl | (simp only [i64_w]; done) | (simp; done) | (simp [*]; done)), H', ⟨by first | omega | exact Nat.le_refl _⟩, ⟨by repeat (first | (with_reducible first | exact HB.out | apply below_alloc | apply pw_below_drewN | apply below_drew1) | exact HB.out)⟩⟩
      · rw [if_neg c5] at H
        exact absurd H (by simp)
  case rest =>
    clear HC3
    try clear c2
    try clear p2
    try clear c4
    try clear c4b0
    try clear c4b1
    try clear c5
    try clear c5b0
    try clear c5b1
    try clear p6
    try clear q6
    try clear hx6
    try clear qi6
    try clear c7
    try clear c7b0
    try clear c7b1
    try clear p6
    try clear q6
    obtain ⟨kq, x21_2, rfl, HA, HJ2, HB⟩ := hcut
    cases kq with
    | zero => exact absurd HA.out (by simp [date_Num.j0])
    | succ kj2 =>
      have H := HA.out
      clear HA
      simp only [date_Num.j0] at H
      by_cases c8 : x21_2 = true
      · subst c8
        have H1 : (some (0, false)) = some (r1, r2) := by rw [if_pos rfl] at H; exact H
        clear H
        have H := H1
        clear H1
        simp only [Option.some.injEq, Prod.mk.injEq] at H
        obtain ⟨rfl, rfl⟩ := H
        go_wp2
        go_ret2
        exact ⟨by first | rfl | (simp [errW_none, errW_some] <;> rfl) | (simp [*, errW_none, errW_some] <;> rfl), by repeat (first | (with_reducible first | exact HB.out | apply below_alloc | apply pw_below_drewN | apply below_drew1) | exact HB.out)⟩
      · replace c8 := Bool.eq_false_iff.mpr c8
        subst c8
        have H1 : (if a0.size ≤ 9223372036854775807 then ((some (bytesOf a0 : List Int)).bind fun y136 => (date_Num.l0 kj2 a1 0 y136 (y136.length : Int) 0)) else (none)) = some (r1, r2) := by rw [if_neg (show ¬ (false = true) by decide)] at H; exact H
        clear H
        have H := H1
        clear H1
        by_cases c9 : a0.size ≤ 9223372036854775807
        · rw [if_pos c9] at H
          have c9b0 := eq_true c9
          have c9b1 : decide (a0.size ≤ 9223372036854775807) = true := decide_eq_true c9
          try have c9b2 : (9223372036854775807 < a0.size) = False := eq_false (Nat.not_lt.2 c9)
          clear c9
          obtain ⟨y136, hy136⟩ : ∃ y_ : List Int, y_ = (bytesOf a0) := ⟨_, rfl⟩
          replace H : (date_Num.l0 kj2 a1 0 y136 (y136.length : Int) 0) = some (r1, r2) := by first | (rw [hy136]; with_reducible exact H) | (have H2_ := (Option.bind_some _ _).symm.trans H; rw [hy136]; with_reducible exact H2_) | (have H2_ := (Option.bind_some _ _).symm.trans H; with_reducible exact H2_) | with_reducible exact H | (rw [hy136]; exact H) | exact H
          have Ny136 := Aside0.mk hy136
          clear hy136
          have H' := Aside0.mk H
          clear H
          go_wp2_with (first | ((with_reducible refine gate_dst (N := 23) rfl ?_); (try (refine gate_guard (by rfl) ?_; dsimp only)); refine XW.V_bytes _ 5 rfl (N := 23) rfl 9 35 _ rfl a0 rfl Tryd.underlying9 Tryd.underlying35 Tryd.underlying5 (by have h_ : a0.size ≤ 9223372036854775807 := of_decide_eq_true (by first | (with_reducible assumption) | assumption); first | exact h_ | (simp only [ByteArray.size_append]; exact h_)) (ok := (fun _ => True)) (fun k_ hk => trivial) (Below.refl _ _) (Nat.le_refl _) ?_; intro v137 w10 ho11 hb hg_ hnew_; clear hg_ hnew_; (first | rw [← Ny136.out] at ho11 | (simp only [Int.reduceToNat] at ho11; rw [← Ny136.out] at ho11)); have n0_ := Aside0.mk (Kd.V_lower ho11 (below_size (by repeat (first | (with_reducible first | exact HB.out | apply below_alloc | apply pw_below_drewN | apply below_drew1) | exact HB.out)))); have n1_ := Aside0.mk (below_step (by repeat (first | (with_reducible first | exact HB.out | apply below_alloc | apply pw_below_drewN | apply below_drew1) | exact HB.out)) hb); clear HB; have HO138 := n0_; have HB := n1_; clear n0_ n1_; clear hb ho11; obtain ⟨Ao12, co12, eo12⟩ := Kd.V_slice HO138.out; subst eo12))
          go_loopg [6, 25] kj2 (fun kq v6 v25 w' => ∃ (x6_2 : Int) (x25_2 : Int), v6 = .int .u64 x6_2 ∧ v25 = .int .i64 x25_2 ∧ Aside0 (date_Num.l0 kq a1 x6_2 y136 (y136.length : Int) x25_2 = some (r1, r2)) ∧ Aside0 (kq ≤ kj2) ∧ Aside0 (Kd.V (Kd.int .u8) 5 w' w.heap.size (fun _ => True) (.slice Ao12 y136.length co12) y136) ∧ Aside0 (Below w.heap.size w w'))
          case atStart => exact ⟨(0), (0), (by first | rfl | (simp only [i64_w]; done) | (simp; done) | (simp [*]; done)), (by first | rfl | (simp only [i64_w]; done) | (simp; done) | (simp [*]; done)), H', ⟨Nat.le_refl _⟩, ⟨by (with_reducible repeat (first | apply Kd.V_alloc | apply Kd.V_drewN | apply Kd.V_drew)); exact HO138.out⟩, ⟨by repeat (first | (with_reducible first | exact HB.out | apply below_alloc | apply pw_below_drewN | apply below_drew1) | exact HB.out)⟩⟩
          case round =>
            clear H'
            try clear c2
            try clear p2
            try clear c4
            try clear c4b0
            try clear c4b1
            try clear c5
            try clear c5b0
            try clear c5b1
            try clear p6
            try clear q6
            try clear hx6
            try clear qi6
            try clear c7
            try clear c7b0
            try clear c7b1
            try clear c8
            try clear c9
            try clear c9b0
            try clear c9b1
            try clear c9b2
            try clear p2
            try clear p6
            try clear q6
            obtain ⟨x6_2, x25_2, rfl, rfl, HA, HK2, HO_23, HB⟩ := hrel
            cases gk with
            | zero => exact absurd HA.out (by simp [date_Num.l0])
            | succ k2 =>
              have H := HA.out
              clear HA
              simp only [date_Num.l0] at H
              by_cases c13 : x25_2 < (y136.length : Int)
              · rw [if_pos c13] at H
                have c13b0 : decide (x25_2 < (y136.length : Int)) = true := decide_eq_true c13
                clear c13
                by_cases c14 : 0 ≤ x25_2
                · rw [if_pos c14] at H
                  have c14b0 : decide (0 ≤ x25_2) = true := decide_eq_true c14
                  clear c14
                  by_cases c15 : x25_2 < (y136.length : Int)
                  · rw [if_pos c15] at H
                    have c15b0 : decide (x25_2 < (y136.length : Int)) = true := decide_eq_true c15
                    clear c15
                    have HC16 := Aside0.mk H
                    clear H
                    have p139 : 0 ≤ (x25_2 : Int) := of_decide_eq_true (by first | (with_reducible assumption) | assumption)
                    have q139 : x25_2 < (y136.length : Int) := of_decide_eq_true (by first | (with_reducible assumption) | assumption)
                    obtain ⟨ad139, e139, hx139_0⟩ := Kd.at_int (Kd.V_reads' HO_23.out).2.2 x25_2 p139 q139
                    cases e139
                    replace p139 := eq_true p139
                    replace q139 := eq_true q139
                    go_upto_region 7 with (fail)
                    go_cut [34] (fun v34 wc => ∃ (kq : Nat) (x34_15 : Bool), v34 = .bool x34_15 ∧ Aside0 (date_Num.j2 kq a1 x6_2 (rd y136 x25_2) y136 (y136.length : Int) x25_2 x34_15 = some (r1, r2)) ∧ Aside0 (kq ≤ k2) ∧ Aside0 (Kd.V (Kd.int .u8) 5 wc w.heap.size (fun _ => True) (.slice (some ad139) y136.length co12) y136) ∧ Aside0 (Below w.heap.size w wc))
                    case first =>
                      have H := HC16.out
                      clear HC16
                      by_cases c17 : (rd y136 x25_2) < 48
                      · rw [if_pos c17] at H
                        have c17b0 : decide ((rd y136 x25_2) < 48) = true := decide_eq_true c17
                        clear c17
                        (first | rw [c17b0] | (simp only [i64_w, i32_w]; rw [c17b0]) | skip)
                        have H' := Aside0.mk H
                        clear H
                        go_wp2
                        go_meet
                        case rel => exact ⟨_, (true), (by first | rfl | (simp only [i64_w]; done) | (simp; done) | (simp [*]; done)), H', ⟨by have := HJ2.out; have := HK2.out; first | omega | exact Nat.le_refl _⟩, ⟨by (with_reducible repeat (first | apply Kd.V_alloc | apply Kd.V_drewN | apply Kd.V_drew)); exact HO_23.out⟩, ⟨by repeat (first | (with_reducible first | exact HB.out | apply below_alloc | apply pw_below_drewN | apply below_drew1) | exact HB.out)⟩⟩
                      · rw [if_neg c17] at H
                        have c17b0 : decide ((rd y136 x25_2) < 48) = false := decide_eq_false c17
                        clear c17
                        (first | rw [c17b0] | (simp only [i64_w, i32_w]; rw [c17b0]) | skip)
                        have H' := Aside0.mk H
                        clear H
                        go_wp2
                        go_meet
                        case rel => exact ⟨_, (decide ((rd y136 x25_2) > 57)), (by first | rfl | (simp only [i64_w]; done) | (simp; done) | (simp [*]; done)), H', ⟨by have := HJ2.out; have := HK2.out; first | omega | exact Nat.le_refl _⟩, ⟨by (with_reducible repeat (first | apply Kd.V_alloc | apply Kd.V_drewN | apply Kd.V_drew)); exact HO_23.out⟩, ⟨by repeat (first | (with_reducible first | exact HB.out | apply below_alloc | apply pw_below_drewN | apply below_drew1) | exact HB.out)⟩⟩
                    case rest =>
                      clear HC16
                      try clear c1
                      try clear p1
                      try clear q1
                      try clear hx1
                      try clear c2
                      try clear p2
                      try clear c4
                      try clear c4b0
                      try clear c4b1
                      try clear c5
                      try clear c5b0
                      try clear c5b1
                      try clear p6
                      try clear q6
                      try clear hx6
                      try clear qi6
                      try clear c7
                      try clear c7b0
                      try clear c7b1
                      try clear c8
                      try clear c9
                      try clear c9b0
                      try clear c9b1
                      try clear c9b2
                      try clear c13
                      try clear c13b0
                      try clear p13
                      try clear q13
                      try clear hx13
                      try clear c14
                      try clear c14b0
                      try clear c15
                      try clear c15b0
                      try clear c17
                      try clear c17b0
                      try clear hx139_0
                      try clear p139
                      try clear p2
                      try clear p6
                      try clear q139
                      try clear q6
                      obtain ⟨kq, x34_15, rfl, HA, HJ15, HO_23, HB⟩ := hcut
                      cases kq with
                      | zero => exact absurd HA.out (by simp [date_Num.j2])
                      | succ kj15 =>
                        have H := HA.out
                        clear HA
                        simp only [date_Num.j2] at H
                        by_cases c18 : x34_15 = true
                        · subst c18
                          have H1 : (some (0, false)) = some (r1, r2) := by rw [if_pos rfl] at H; exact H
                          clear H
                          have H := H1
                          clear H1
                          simp only [Option.some.injEq, Prod.mk.injEq] at H
                          obtain ⟨rfl, rfl⟩ := H
                          go_wp2
                          go_ret2
                          exact ⟨by first | rfl | (simp [errW_none, errW_some] <;> rfl) | (simp [*, errW_none, errW_some] <;> rfl), by repeat (first | (with_reducible first | exact HB.out | apply below_alloc | apply pw_below_drewN | apply below_drew1) | exact HB.out)⟩
                        · replace c18 := Bool.eq_false_iff.mpr c18
                          subst c18
                          have H1 : (if x6_2 > (IntKind.u64.wrap (Int.tdiv a1 10)) then (some (0, false)) else (if (IntKind.u64.wrap (10 * x6_2)) > (IntKind.u64.wrap (a1 - (mn (((rd y136 x25_2) - 48) % 256) a1))) then (some (0, false)) else (date_Num.l0 kj15 a1 (IntKind.u64.wrap ((IntKind.u64.wrap (10 * x6_2)) + (((rd y136 x25_2) - 48) % 256))) y136 (y136.length : Int) (wrap64 (x25_2 + 1))))) = some (r1, r2) := by rw [if_neg (show ¬ (false = true) by decide)] at H; exact H
                          clear H
                          have H := H1
                          clear H1
                          by_cases c19 : x6_2 > (IntKind.u64.wrap (Int.tdiv a1 10))
                          · rw [if_pos c19] at H
                            have c19b0 : decide ((IntKind.u64.wrap (Int.tdiv a1 10)) < x6_2) = true := decide_eq_true c19
                            clear c19
                            simp only [Option.some.injEq, Prod.mk.injEq] at H
                            obtain ⟨rfl, rfl⟩ := H
                            go_wp2
                            go_ret2
                            exact ⟨by first | rfl | (simp [errW_none, errW_some] <;> rfl) | (simp [*, errW_none, errW_some] <;> rfl), by repeat (first | (with_reducible first | exact HB.out | apply below_alloc | apply pw_below_drewN | apply below_drew1) | exact HB.out)⟩
                          · rw [if_neg c19] at H
                            have c19b0 : decide ((IntKind.u64.wrap (Int.tdiv a1 10)) < x6_2) = false := decide_eq_false c19
                            clear c19
                            obtain ⟨ji20, hji20⟩ : ∃ j_ : Int, (mn (((rd y136 x25_2) - 48) % 256) a1) = j_ := ⟨_, rfl⟩
                            replace H : (if (IntKind.u64.wrap (10 * x6_2)) > (IntKind.u64.wrap (a1 - (ji20))) then (some (0, false)) else (date_Num.l0 kj15 a1 (IntKind.u64.wrap ((IntKind.u64.wrap (10 * x6_2)) + (((rd y136 x25_2) - 48) % 256))) y136 (y136.length : Int) (wrap64 (x25_2 + 1)))) = some (r1, r2) := by first | (rw [hji20] at H; exact H) | (simp only [hji20] at H ⊢; exact H)
                            have hji20_ : (if a1 < (((rd y136 x25_2) - 48) % 256) then a1 else (((rd y136 x25_2) - 48) % 256)) = ji20 := hji20
                            by_cases c21 : (IntKind.u64.wrap (10 * x6_2)) > (IntKind.u64.wrap (a1 - (ji20)))
                            · rw [if_pos c21] at H
                              have c21b0 : decide ((IntKind.u64.wrap (a1 - (ji20))) < (IntKind.u64.wrap (10 * x6_2))) = true := decide_eq_true c21
                              clear c21
                              simp only [Option.some.injEq, Prod.mk.injEq] at H
                              obtain ⟨rfl, rfl⟩ := H
                              go_wp2
                              go_ret2
                              exact ⟨by first | rfl | (simp [errW_none, errW_some] <;> rfl) | (simp only [← hji20]; first | rfl | (simp [errW_none, errW_some] <;> rfl)) | (simp [*, errW_none, errW_some] <;> rfl), by repeat (first | (with_reducible first | exact HB.out | apply below_alloc | apply pw_below_drewN | apply below_drew1) | exact HB.out)⟩
                            · rw [if_neg c21] at H
                              have c21b0 : decide ((IntKind.u64.wrap (a1 - (ji20))) < (IntKind.u64.wrap (10 * x6_2))) = false := decide_eq_false c21
                              clear c21
                              have H' := Aside0.mk H
                              clear H
                              go_wp2
                              go_roundg kj15
                              case measure => have := HJ2.out; have := HK2.out; have := HJ15.out; omega
                              case rel => exact ⟨(IntKind.u64.wrap ((IntKind.u64.wrap (10 * x6_2)) + (((rd y136 x25_2) - 48) % 256))), (wrap64 (x25_2 + 1)), (by first | rfl | (simp only [i64_w]; done) | (simp; done) | (simp [*]; done)), (by first | rfl | (simp only [i64_w]; done) | (simp; done) | (simp [*]; done)), H', ⟨by have := HJ2.out; have := HK2.out; have := HJ15.out; omega⟩, ⟨by (with_reducible repeat (first | apply Kd.V_alloc | apply Kd.V_drewN | apply Kd.V_drew)); exact HO_23.out⟩, ⟨by repeat (first | (with_reducible first | exact HB.out | apply below_alloc | apply pw_below_drewN | apply below_drew1) | exact HB.out)⟩⟩
                  · rw [if_neg c15] at H
                    exact absurd H (by simp)
                · rw [if_neg c14] at H
                  exact absurd H (by simp)
              · rw [if_neg c13] at H
                have c13b0 : decide (x25_2 < (y136.length : Int)) = false := decide_eq_false c13
                clear c13
                by_cases c22 : x6_2 > a1
                · rw [if_pos c22] at H
                  have c22b0 : decide (a1 < x6_2) = true := decide_eq_true c22
                  clear c22
                  simp only [Option.some.injEq, Prod.mk.injEq] at H
                  obtain ⟨rfl, rfl⟩ := H
                  go_wp2
                  go_ret2
                  exact ⟨by first | rfl | (simp [errW_none, errW_some] <;> rfl) | (simp [*, errW_none, errW_some] <;> rfl), by repeat (first | (with_reducible first | exact HB.out | apply below_alloc | apply pw_below_drewN | apply below_drew1) | exact HB.out)⟩
                · rw [if_neg c22] at H
                  have c22b0 : decide (a1 < x6_2) = false := decide_eq_false c22
                  clear c22
                  simp only [Option.some.injEq, Prod.mk.injEq] at H
                  obtain ⟨rfl, rfl⟩ := H
                  go_wp2
                  go_ret2
                  exact ⟨by first | rfl | (simp [errW_none, errW_some] <;> rfl) | (simp [*, errW_none, errW_some] <;> rfl), by repeat (first | (with_reducible first | exact HB.out | apply below_alloc | apply pw_below_drewN | apply below_drew1) | exact HB.out)⟩
        · rw [if_neg c9] at H
          exact absurd H (by simp)

/-! ### glebelaw6_awake: function 16 -/
def glebelaw6_awake.f (k : Nat)  : Option (Bool) := (date_Parse.f k (⟨#[49, 57, 55, 48, 47, 48, 49, 47, 48, 50]⟩ : ByteArray) (⟨#[48, 48, 58, 48, 48, 58, 48, 49]⟩ : ByteArray)).bind fun bt140 => ((date_Parse.f k (⟨#[50, 48, 50, 52, 47, 48, 50, 47, 50, 57]⟩ : ByteArray) (⟨#[50, 51, 58, 53, 57, 58, 53, 57]⟩ : ByteArray)).bind fun bt142 => ((date_Parse.f k (⟨#[50, 48, 50, 51, 47, 48, 50, 47, 50, 57]⟩ : ByteArray) (⟨#[48, 48, 58, 48, 48, 58, 48, 48]⟩ : ByteArray)).bind fun bt144 => ((date_Print.f k bt142.1).bind fun bt146 => ((date_Num.f k (⟨#[49, 56, 52, 52, 54, 55, 52, 52, 48, 55, 51, 55, 48, 57, 53, 53, 49, 54, 49, 53]⟩ : ByteArray) 18446744073709551615).bind fun bt149 => ((date_Num.f k (⟨#[48, 48, 55]⟩ : ByteArray) 9).bind fun bt151 => (if bt140.2 = true then (if bt140.1 = 86401 then (if bt142.2 = true then (if bt142.1 = 1709251199 then (if bt144.2 = true then (none) else (if bt146.2.2 = true then (if bt146.1.toList = ([50, 48, 50, 52, 47, 48, 50, 47, 50, 57] : List UInt8) then (if bt146.2.1.toList = ([50, 51, 58, 53, 57, 58, 53, 57] : List UInt8) then ((date_Week.f 0).bind fun t153 => (if t153 = 4 then ((date_Week.f bt142.1).bind fun t154 => (if t154 = 4 then (if bt149.2 = true then (if bt149.1 = 18446744073709551615 then (if bt151.2 = true then (none) else ((date_Text.f 0).bind fun t155 => (some (t155.toList == ([48] : List UInt8))))) else (none)) else (none)) else (none))) else (none))) else (none)) else (none)) else (none))) else (none)) else (none)) else (none)) else (none)))))))
theorem glebelaw6_awake.mono : ∀ k, LeO (glebelaw6_awake.f k ) (glebelaw6_awake.f (k + 1) ) := by
  intro  k
  unfold glebelaw6_awake.f
  repeat' first
      | (with_reducible exact date_Num.mono _ _ _)
      | (with_reducible exact date_Parse.mono _ _ _)
      | (with_reducible exact date_Print.mono _ _)
      | (with_reducible exact LeO.refl _)
      | (with_reducible exact LeO.none _)
      | (with_reducible refine LeO.ite ?_ ?_)
      | (with_reducible refine LeO.bind ?_ (fun _ => ?_))
      | exact date_Num.mono _ _ _
      | exact date_Parse.mono _ _ _
      | exact date_Print.mono _ _
      | exact LeO.none _
      | refine LeO.ite ?_ ?_
      | refine LeO.bind ?_ (fun _ => ?_)
set_option maxHeartbeats 8000000 in
set_option maxRecDepth 100000 in
theorem glebelaw6_awake.calls (k : Nat)  (r : Bool) (w : World) (hTab : XT.Tabs w) (h : glebelaw6_awake.f k  = some r) :
    Calls Tryd.prog 16 #[] w fun e w' => e = .returned (.bool r) ∧ Below w.heap.size w w' := by
  have HB := Aside0.mk (Below.refl w.heap.size w)
  have H : ((date_Parse.f k (⟨#[49, 57, 55, 48, 47, 48, 49, 47, 48, 50]⟩ : ByteArray) (⟨#[48, 48, 58, 48, 48, 58, 48, 49]⟩ : ByteArray)).bind fun bt140 => ((date_Parse.f k (⟨#[50, 48, 50, 52, 47, 48, 50, 47, 50, 57]⟩ : ByteArray) (⟨#[50, 51, 58, 53, 57, 58, 53, 57]⟩ : ByteArray)).bind fun bt142 => ((date_Parse.f k (⟨#[50, 48, 50, 51, 47, 48, 50, 47, 50, 57]⟩ : ByteArray) (⟨#[48, 48, 58, 48, 48, 58, 48, 48]⟩ : ByteArray)).bind fun bt144 => ((date_Print.f k bt142.1).bind fun bt146 => ((date_Num.f k (⟨#[49, 56, 52, 52, 54, 55, 52, 52, 48, 55, 51, 55, 48, 57, 53, 53, 49, 54, 49, 53]⟩ : ByteArray) 18446744073709551615).bind fun bt149 => ((date_Num.f k (⟨#[48, 48, 55]⟩ : ByteArray) 9).bind fun bt151 => (if bt140.2 = true then (if bt140.1 = 86401 then (if bt142.2 = true then (if bt142.1 = 1709251199 then (if bt144.2 = true then (none) else (if bt146.2.2 = true then (if bt146.1.toList = ([50, 48, 50, 52, 47, 48, 50, 47, 50, 57] : List UInt8) then (if bt146.2.1.toList = ([50, 51, 58, 53, 57, 58, 53, 57] : List UInt8) then ((date_Week.f 0).bind fun t153 => (if t153 = 4 then ((date_Week.f bt142.1).bind fun t154 => (if t154 = 4 then (if bt149.2 = true then (if bt149.1 = 18446744073709551615 then (if bt151.2 = true then (none) else ((date_Text.f 0).bind fun t155 => (some (t155.toList == ([48] : List UInt8))))) else (none)) else (none)) else (none))) else (none))) else (none)) else (none)) else (none))) else (none)) else (none)) else (none)) else (none)))))))) = some r := h
  clear h
  replace H := Option.bind_eq_some_iff.mp H
  obtain ⟨⟨t140, t141⟩, A10, H⟩ := H
  replace H : ((date_Parse.f k (⟨#[50, 48, 50, 52, 47, 48, 50, 47, 50, 57]⟩ : ByteArray) (⟨#[50, 51, 58, 53, 57, 58, 53, 57]⟩ : ByteArray)).bind fun bt142 => ((date_Parse.f k (⟨#[50, 48, 50, 51, 47, 48, 50, 47, 50, 57]⟩ : ByteArray) (⟨#[48, 48, 58, 48, 48, 58, 48, 48]⟩ : ByteArray)).bind fun bt144 => ((date_Print.f k bt142.1).bind fun bt146 => ((date_Num.f k (⟨#[49, 56, 52, 52, 54, 55, 52, 52, 48, 55, 51, 55, 48, 57, 53, 53, 49, 54, 49, 53]⟩ : ByteArray) 18446744073709551615).bind fun bt149 => ((date_Num.f k (⟨#[48, 48, 55]⟩ : ByteArray) 9).bind fun bt151 => (if t141 = true then (if t140 = 86401 then (if bt142.2 = true then (if bt142.1 = 1709251199 then (if bt144.2 = true then (none) else (if bt146.2.2 = true then (if bt146.1.toList = ([50, 48, 50, 52, 47, 48, 50, 47, 50, 57] : List UInt8) then (if bt146.2.1.toList = ([50, 51, 58, 53, 57, 58, 53, 57] : List UInt8) then ((date_Week.f 0).bind fun t153 => (if t153 = 4 then ((date_Week.f bt142.1).bind fun t154 => (if t154 = 4 then (if bt149.2 = true then (if bt149.1 = 18446744073709551615 then (if bt151.2 = true then (none) else ((date_Text.f 0).bind fun t155 => (some (t155.toList == ([48] : List UInt8))))) else (none)) else (none)) else (none))) else (none))) else (none)) else (none)) else (none))) else (none)) else (none)) else (none)) else (none))))))) = some r := H
  have A1 := Aside0.mk A10
  clear A10
  replace H := Option.bind_eq_some_iff.mp H
  obtain ⟨⟨t142, t143⟩, A20, H⟩ := H
  replace H : ((date_Parse.f k (⟨#[50, 48, 50, 51, 47, 48, 50, 47, 50, 57]⟩ : ByteArray) (⟨#[48, 48, 58, 48, 48, 58, 48, 48]⟩ : ByteArray)).bind fun bt144 => ((date_Print.f k t142).bind fun bt146 => ((date_Num.f k (⟨#[49, 56, 52, 52, 54, 55, 52, 52, 48, 55, 51, 55, 48, 57, 53, 53, 49, 54, 49, 53]⟩ : ByteArray) 18446744073709551615).bind fun bt149 => ((date_Num.f k (⟨#[48, 48, 55]⟩ : ByteArray) 9).bind fun bt151 => (if t141 = true then (if t140 = 86401 then (if t143 = true then (if t142 = 1709251199 then (if bt144.2 = true then (none) else (if bt146.2.2 = true then (if bt146.1.toList = ([50, 48, 50, 52, 47, 48, 50, 47, 50, 57] : List UInt8) then (if bt146.2.1.toList = ([50, 51, 58, 53, 57, 58, 53, 57] : List UInt8) then ((date_Week.f 0).bind fun t153 => (if t153 = 4 then ((date_Week.f t142).bind fun t154 => (if t154 = 4 then (if bt149.2 = true then (if bt149.1 = 18446744073709551615 then (if bt151.2 = true then (none) else ((date_Text.f 0).bind fun t155 => (some (t155.toList == ([48] : List UInt8))))) else (none)) else (none)) else (none))) else (none))) else (none)) else (none)) else (none))) else (none)) else (none)) else (none)) else (none)))))) = some r := H
  have A2 := Aside0.mk A20
  clear A20
  replace H := Option.bind_eq_some_iff.mp H
  obtain ⟨⟨t144, t145⟩, A30, H⟩ := H
  replace H : ((date_Print.f k t142).bind fun bt146 => ((date_Num.f k (⟨#[49, 56, 52, 52, 54, 55, 52, 52, 48, 55, 51, 55, 48, 57, 53, 53, 49, 54, 49, 53]⟩ : ByteArray) 18446744073709551615).bind fun bt149 => ((date_Num.f k (⟨#[48, 48, 55]⟩ : ByteArray) 9).bind fun bt151 => (if t141 = true then (if t140 = 86401 then (if t143 = true then (if t142 = 1709251199 then (if t145 = true then (none) else (if bt146.2.2 = true then (if bt146.1.toList = ([50, 48, 50, 52, 47, 48, 50, 47, 50, 57] : List UInt8) then (if bt146.2.1.toList = ([50, 51, 58, 53, 57, 58, 53, 57] : List UInt8) then ((date_Week.f 0).bind fun t153 => (if t153 = 4 then ((date_Week.f t142).bind fun t154 => (if t154 = 4 then (if bt149.2 = true then (if bt149.1 = 18446744073709551615 then (if bt151.2 = true then (none) else ((date_Text.f 0).bind fun t155 => (some (t155.toList == ([48] : List UInt8))))) else (none)) else (none)) else (none))) else (none))) else (none)) else (none)) else (none))) else (none)) else (none)) else (none)) else (none))))) = some r := H
  have A3 := Aside0.mk A30
  clear A30
  replace H := Option.bind_eq_some_iff.mp H
  obtain ⟨⟨t146, t147, t148⟩, A40, H⟩ := H
  replace H : ((date_Num.f k (⟨#[49, 56, 52, 52, 54, 55, 52, 52, 48, 55, 51, 55, 48, 57, 53, 53, 49, 54, 49, 53]⟩ : ByteArray) 18446744073709551615).bind fun bt149 => ((date_Num.f k (⟨#[48, 48, 55]⟩ : ByteArray) 9).bind fun bt151 => (if t141 = true then (if t140 = 86401 then (if t143 = true then (if t142 = 1709251199 then (if t145 = true then (none) else (if t148 = true then (if t146.toList = ([50, 48, 50, 52, 47, 48, 50, 47, 50, 57] : List UInt8) then (if t147.toList = ([50, 51, 58, 53, 57, 58, 53, 57] : List UInt8) then ((date_Week.f 0).bind fun t153 => (if t153 = 4 then ((date_Week.f t142).bind fun t154 => (if t154 = 4 then (if bt149.2 = true then (if bt149.1 = 18446744073709551615 then (if bt151.2 = true then (none) else ((date_Text.f 0).bind fun t155 => (some (t155.toList == ([48] : List UInt8))))) else (none)) else (none)) else (none))) else (none))) else (none)) else (none)) else (none))) else (none)) else (none)) else (none)) else (none)))) = some r := H
  have A4 := Aside0.mk A40
  clear A40
  replace H := Option.bind_eq_some_iff.mp H
  obtain ⟨⟨t149, t150⟩, A50, H⟩ := H
  replace H : ((date_Num.f k (⟨#[48, 48, 55]⟩ : ByteArray) 9).bind fun bt151 => (if t141 = true then (if t140 = 86401 then (if t143 = true then (if t142 = 1709251199 then (if t145 = true then (none) else (if t148 = true then (if t146.toList = ([50, 48, 50, 52, 47, 48, 50, 47, 50, 57] : List UInt8) then (if t147.toList = ([50, 51, 58, 53, 57, 58, 53, 57] : List UInt8) then ((date_Week.f 0).bind fun t153 => (if t153 = 4 then ((date_Week.f t142).bind fun t154 => (if t154 = 4 then (if t150 = true then (if t149 = 18446744073709551615 then (if bt151.2 = true then (none) else ((date_Text.f 0).bind fun t155 => (some (t155.toList == ([48] : List UInt8))))) else (none)) else (none)) else (none))) else (none))) else (none)) else (none)) else (none))) else (none)) else (none)) else (none)) else (none))) = some r := H
  have A5 := Aside0.mk A50
  clear A50
  replace H := Option.bind_eq_some_iff.mp H
  obtain ⟨⟨t151, t152⟩, A60, H⟩ := H
  replace H : (if t141 = true then (if t140 = 86401 then (if t143 = true then (if t142 = 1709251199 then (if t145 = true then (none) else (if t148 = true then (if t146.toList = ([50, 48, 50, 52, 47, 48, 50, 47, 50, 57] : List UInt8) then (if t147.toList = ([50, 51, 58, 53, 57, 58, 53, 57] : List UInt8) then ((date_Week.f 0).bind fun t153 => (if t153 = 4 then ((date_Week.f t142).bind fun t154 => (if t154 = 4 then (if t150 = true then (if t149 = 18446744073709551615 then (if t152 = true then (none) else ((date_Text.f 0).bind fun t155 => (some (t155.toList == ([48] : List UInt8))))) else (none)) else (none)) else (none))) else (none))) else (none)) else (none)) else (none))) else (none)) else (none)) else (none)) else (none)) = some r := H
  have A6 := Aside0.mk A60
  clear A60
  by_cases c7 : t141 = true
  · subst c7
    have H1 : (if t140 = 86401 then (if t143 = true then (if t142 = 1709251199 then (if t145 = true then (none) else (if t148 = true then (if t146.toList = ([50, 48, 50, 52, 47, 48, 50, 47, 50, 57] : List UInt8) then (if t147.toList = ([50, 51, 58, 53, 57, 58, 53, 57] : List UInt8) then ((date_Week.f 0).bind fun t153 => (if t153 = 4 then ((date_Week.f t142).bind fun t154 => (if t154 = 4 then (if t150 = true then (if t149 = 18446744073709551615 then (if t152 = true then (none) else ((date_Text.f 0).bind fun t155 => (some (t155.toList == ([48] : List UInt8))))) else (none)) else (none)) else (none))) else (none))) else (none)) else (none)) else (none))) else (none)) else (none)) else (none)) = some r := by rw [if_pos rfl] at H; exact H
    clear H
    have H := H1
    clear H1
    by_cases c8 : t140 = 86401
    · rw [if_pos c8] at H
      have c8b0 : (t140 == 86401) = true := beq_iff_eq.mpr c8
      have c8b1 : (t140 != 86401) = false := bne_eq_false_iff_eq.mpr c8
      clear c8
      by_cases c9 : t143 = true
      · subst c9
        have H1 : (if t142 = 1709251199 then (if t145 = true then (none) else (if t148 = true then (if t146.toList = ([50, 48, 50, 52, 47, 48, 50, 47, 50, 57] : List UInt8) then (if t147.toList = ([50, 51, 58, 53, 57, 58, 53, 57] : List UInt8) then ((date_Week.f 0).bind fun t153 => (if t153 = 4 then ((date_Week.f t142).bind fun t154 => (if t154 = 4 then (if t150 = true then (if t149 = 18446744073709551615 then (if t152 = true then (none) else ((date_Text.f 0).bind fun t155 => (some (t155.toList == ([48] : List UInt8))))) else (none)) else (none)) else (none))) else (none))) else (none)) else (none)) else (none))) else (none)) = some r := by rw [if_pos rfl] at H; exact H
        clear H
        have H := H1
        clear H1
        by_cases c10 : t142 = 1709251199
        · rw [if_pos c10] at H
          have c10b0 : (t142 == 1709251199) = true := beq_iff_eq.mpr c10
          have c10b1 : (t142 != 1709251199) = false := bne_eq_false_iff_eq.mpr c10
          clear c10
          by_cases c11 : t145 = true
          · subst c11
            have H1 : (none) = some r := by rw [if_pos rfl] at H; exact H
            clear H
            have H := H1
            clear H1
            exact absurd H (by simp)
          · replace c11 := Bool.eq_false_iff.mpr c11
            subst c11
            have H1 : (if t148 = true then (if t146.toList = ([50, 48, 50, 52, 47, 48, 50, 47, 50, 57] : List UInt8) then (if t147.toList = ([50, 51, 58, 53, 57, 58, 53, 57] : List UInt8) then ((date_Week.f 0).bind fun t153 => (if t153 = 4 then ((date_Week.f t142).bind fun t154 => (if t154 = 4 then (if t150 = true then (if t149 = 18446744073709551615 then (if t152 = true then (none) else ((date_Text.f 0).bind fun t155 => (some (t155.toList == ([48] : List UInt8))))) else (none)) else (none)) else (none))) else (none))) else (none)) else (none)) else (none)) = some r := by rw [if_neg (show ¬ (false = true) by decide)] at H; exact H
            clear H
            have H := H1
            clear H1
            by_cases c12 : t148 = true
            · subst c12
              have H1 : (if t146.toList = ([50, 48, 50, 52, 47, 48, 50, 47, 50, 57] : List UInt8) then (if t147.toList = ([50, 51, 58, 53, 57, 58, 53, 57] : List UInt8) then ((date_Week.f 0).bind fun t153 => (if t153 = 4 then ((date_Week.f t142).bind fun t154 => (if t154 = 4 then (if t150 = true then (if t149 = 18446744073709551615 then (if t152 = true then (none) else ((date_Text.f 0).bind fun t155 => (some (t155.toList == ([48] : List UInt8))))) else (none)) else (none)) else (none))) else (none))) else (none)) else (none)) = some r := by rw [if_pos rfl] at H; exact H
              clear H
              have H := H1
              clear H1
              by_cases c13 : t146.toList = ([50, 48, 50, 52, 47, 48, 50, 47, 50, 57] : List UInt8)
              · rw [if_pos c13] at H
                have c13b0 : (t146.toList == ([50, 48, 50, 52, 47, 48, 50, 47, 50, 57] : List UInt8)) = true := beq_iff_eq.mpr c13
                have c13b1 : (t146.toList != ([50, 48, 50, 52, 47, 48, 50, 47, 50, 57] : List UInt8)) = false := bne_eq_false_iff_eq.mpr c13
                clear c13
                by_cases c14 : t147.toList = ([50, 51, 58, 53, 57, 58, 53, 57] : List UInt8)
                · rw [if_pos c14] at H
                  have c14b0 : (t147.toList == ([50, 51, 58, 53, 57, 58, 53, 57] : List UInt8)) = true := beq_iff_eq.mpr c14
                  have c14b1 : (t147.toList != ([50, 51, 58, 53, 57, 58, 53, 57] : List UInt8)) = false := bne_eq_false_iff_eq.mpr c14
                  clear c14
                  replace H := Option.bind_eq_some_iff.mp H
                  obtain ⟨t153, A150, H⟩ := H
                  replace H : (if t153 = 4 then ((date_Week.f t142).bind fun t154 => (if t154 = 4 then (if t150 = true then (if t149 = 18446744073709551615 then (if t152 = true then (none) else ((date_Text.f 0).bind fun t155 => (some (t155.toList == ([48] : List UInt8))))) else (none)) else (none)) else (none))) else (none)) = some r := H
                  have A15 := Aside0.mk A150
                  clear A150
                  by_cases c16 : t153 = 4
                  · rw [if_pos c16] at H
                    have c16b0 : (t153 == 4) = true := beq_iff_eq.mpr c16
                    have c16b1 : (t153 != 4) = false := bne_eq_false_iff_eq.mpr c16
                    clear c16
                    replace H := Option.bind_eq_some_iff.mp H
                    obtain ⟨t154, A170, H⟩ := H
                    replace H : (if t154 = 4 then (if t150 = true then (if t149 = 18446744073709551615 then (if t152 = true then (none) else ((date_Text.f 0).bind fun t155 => (some (t155.toList == ([48] : List UInt8))))) else (none)) else (none)) else (none)) = some r := H
                    have A17 := Aside0.mk A170
                    clear A170
                    by_cases c18 : t154 = 4
                    · rw [if_pos c18] at H
                      have c18b0 : (t154 == 4) = true := beq_iff_eq.mpr c18
                      have c18b1 : (t154 != 4) = false := bne_eq_false_iff_eq.mpr c18
                      clear c18
                      by_cases c19 : t150 = true
                      · subst c19
                        have H1 : (if t149 = 18446744073709551615 then (if t152 = true then (none) else ((date_Text.f 0).bind fun t155 => (some (t155.toList == ([48] : List UInt8))))) else (none)) = some r := by rw [if_pos rfl] at H; exact H
                        clear H
                        have H := H1
                        clear H1
                        by_cases c20 : t149 = 18446744073709551615
                        · rw [if_pos c20] at H
                          have c20b0 : (t149 == 18446744073709551615) = true := beq_iff_eq.mpr c20
                          have c20b1 : (t149 != 18446744073709551615) = false := bne_eq_false_iff_eq.mpr c20
                          clear c20
                          by_cases c21 : t152 = true
                          · subst c21
                            have H1 : (none) = some r := by rw [if_pos rfl] at H; exact H
                            clear H
                            have H := H1
                            clear H1
                            exact absurd H (by simp)
                          · replace c21 := Bool.eq_false_iff.mpr c21
                            subst c21
                            have H1 : ((date_Text.f 0).bind fun t155 => (some (t155.toList == ([48] : List UInt8)))) = some r := by rw [if_neg (show ¬ (false = true) by decide)] at H; exact H
                            clear H
                            have H := H1
                            clear H1
                            replace H := Option.bind_eq_some_iff.mp H
                            obtain ⟨t155, A220, H⟩ := H
                            replace H : (some (t155.toList == ([48] : List UInt8))) = some r := H
                            have A22 := Aside0.mk A220
                            clear A220
                            obtain rfl := Option.some.inj H
                            go_enter Tryd.func16, Tryd.ntmps16
                            go_wp2_with (first | ((with_reducible refine gate_callee (f := 15) rfl ?_); refine goesL_ (some 15) rfl rfl Tryd.func15 (by kernel_rfl) rfl #[.string (⟨#[49, 57, 55, 48, 47, 48, 49, 47, 48, 50]⟩ : ByteArray), .string (⟨#[48, 48, 58, 48, 48, 58, 48, 49]⟩ : ByteArray)] rfl (by (try simp only [List.map_toArray, List.map_cons, List.map_nil]); first | done | rfl | (simp only [List.length_drop, List.length_take]; rfl)) ?_; (with_reducible refine (date_Parse.calls k (⟨#[49, 57, 55, 48, 47, 48, 49, 47, 48, 50]⟩ : ByteArray) (⟨#[48, 48, 58, 48, 48, 58, 48, 49]⟩ : ByteArray) t140 true _ A1.out).mono ?_); rintro e w23 ⟨rfl, hb⟩; refine ⟨_, rfl, ?_⟩; have n0_ := Aside0.mk (below_step (by repeat (first | (with_reducible first | exact HB.out | apply below_alloc | apply pw_below_drewN | apply below_drew1) | exact HB.out)) hb); clear HB; have HB := n0_; clear n0_; (try clear hb); (try clear hb2); (try clear hk); (try clear hi)) | ((with_reducible refine gate_callee (f := 15) rfl ?_); refine goesL_ (some 19) rfl rfl Tryd.func15 (by kernel_rfl) rfl #[.string (⟨#[50, 48, 50, 52, 47, 48, 50, 47, 50, 57]⟩ : ByteArray), .string (⟨#[50, 51, 58, 53, 57, 58, 53, 57]⟩ : ByteArray)] rfl (by (try simp only [List.map_toArray, List.map_cons, List.map_nil]); first | done | rfl | (simp only [List.length_drop, List.length_take]; rfl)) ?_; (with_reducible refine (date_Parse.calls k (⟨#[50, 48, 50, 52, 47, 48, 50, 47, 50, 57]⟩ : ByteArray) (⟨#[50, 51, 58, 53, 57, 58, 53, 57]⟩ : ByteArray) t142 true _ A2.out).mono ?_); rintro e w24 ⟨rfl, hb⟩; refine ⟨_, rfl, ?_⟩; have n0_ := Aside0.mk (below_step (by repeat (first | (with_reducible first | exact HB.out | apply below_alloc | apply pw_below_drewN | apply below_drew1) | exact HB.out)) hb); clear HB; have HB := n0_; clear n0_; (try clear hb); (try clear hb2); (try clear hk); (try clear hi)) | ((with_reducible refine gate_callee (f := 15) rfl ?_); refine goesL_ (some 23) rfl rfl Tryd.func15 (by kernel_rfl) rfl #[.string (⟨#[50, 48, 50, 51, 47, 48, 50, 47, 50, 57]⟩ : ByteArray), .string (⟨#[48, 48, 58, 48, 48, 58, 48, 48]⟩ : ByteArray)] rfl (by (try simp only [List.map_toArray, List.map_cons, List.map_nil]); first | done | rfl | (simp only [List.length_drop, List.length_take]; rfl)) ?_; (with_reducible refine (date_Parse.calls k (⟨#[50, 48, 50, 51, 47, 48, 50, 47, 50, 57]⟩ : ByteArray) (⟨#[48, 48, 58, 48, 48, 58, 48, 48]⟩ : ByteArray) t144 false _ A3.out).mono ?_); rintro e w25 ⟨rfl, hb⟩; refine ⟨_, rfl, ?_⟩; have n0_ := Aside0.mk (below_step (by repeat (first | (with_reducible first | exact HB.out | apply below_alloc | apply pw_below_drewN | apply below_drew1) | exact HB.out)) hb); clear HB; have HB := n0_; clear n0_; (try clear hb); (try clear hb2); (try clear hk); (try clear hi)) | ((with_reducible refine gate_callee (f := 17) rfl ?_); refine goesL_ (some 28) rfl rfl Tryd.func17 (by kernel_rfl) rfl #[.int .u64 t142] rfl (by (try simp only [List.map_toArray, List.map_cons, List.map_nil]); first | done | rfl | (simp only [List.length_drop, List.length_take]; rfl)) ?_; (with_reducible refine (date_Print.calls k t142 t146 t147 true _ ?side1 A4.out).mono ?_); (case side1 => exact XT.Tabs.below hTab (by repeat (first | (with_reducible first | exact HB.out | apply below_alloc | apply pw_below_drewN | apply below_drew1) | exact HB.out))); rintro e w26 ⟨rfl, hb⟩; refine ⟨_, rfl, ?_⟩; have n0_ := Aside0.mk (below_step (by repeat (first | (with_reducible first | exact HB.out | apply below_alloc | apply pw_below_drewN | apply below_drew1) | exact HB.out)) hb); clear HB; have HB := n0_; clear n0_; (try clear hb); (try clear hb2); (try clear hk); (try clear hi)) | ((with_reducible refine gate_callee (f := 20) rfl ?_); refine goesL_ (some 33) rfl rfl Tryd.func20 (by kernel_rfl) rfl #[.string (⟨#[49, 56, 52, 52, 54, 55, 52, 52, 48, 55, 51, 55, 48, 57, 53, 53, 49, 54, 49, 53]⟩ : ByteArray), .int .u64 18446744073709551615] rfl (by (try simp only [List.map_toArray, List.map_cons, List.map_nil]); first | done | rfl | (simp only [List.length_drop, List.length_take]; rfl)) ?_; (with_reducible refine (date_Num.calls k (⟨#[49, 56, 52, 52, 54, 55, 52, 52, 48, 55, 51, 55, 48, 57, 53, 53, 49, 54, 49, 53]⟩ : ByteArray) 18446744073709551615 t149 true _ A5.out).mono ?_); rintro e w27 ⟨rfl, hb⟩; refine ⟨_, rfl, ?_⟩; have n0_ := Aside0.mk (below_step (by repeat (first | (with_reducible first | exact HB.out | apply below_alloc | apply pw_below_drewN | apply below_drew1) | exact HB.out)) hb); clear HB; have HB := n0_; clear n0_; (try clear hb); (try clear hb2); (try clear hk); (try clear hi)) | ((with_reducible refine gate_callee (f := 20) rfl ?_); refine goesL_ (some 37) rfl rfl Tryd.func20 (by kernel_rfl) rfl #[.string (⟨#[48, 48, 55]⟩ : ByteArray), .int .u64 9] rfl (by (try simp only [List.map_toArray, List.map_cons, List.map_nil]); first | done | rfl | (simp only [List.length_drop, List.length_take]; rfl)) ?_; (with_reducible refine (date_Num.calls k (⟨#[48, 48, 55]⟩ : ByteArray) 9 t151 false _ A6.out).mono ?_); rintro e w28 ⟨rfl, hb⟩; refine ⟨_, rfl, ?_⟩; have n0_ := Aside0.mk (below_step (by repeat (first | (with_reducible first | exact HB.out | apply below_alloc | apply pw_below_drewN | apply below_drew1) | exact HB.out)) hb); clear HB; have HB := n0_; clear n0_; (try clear hb); (try clear hb2); (try clear hk); (try clear hi)) | (go_at_call 18; (with_reducible refine (date_Week.calls 0 t153 _ A15.out).mono ?_); rintro e w' ⟨rfl, ⟨nd, rfl⟩⟩) | (go_at_call 18; (with_reducible refine (date_Week.calls t142 t154 _ A17.out).mono ?_); rintro e w' ⟨rfl, ⟨nd, rfl⟩⟩) | (go_at_call 19; (with_reducible refine (date_Text.calls 0 t155 _ ?side1 A22.out).mono ?_); (case side1 => exact XT.Tabs.below hTab (by repeat (first | (with_reducible first | exact HB.out | apply below_alloc | apply pw_below_drewN | apply below_drew1) | exact HB.out))); rintro e w29 ⟨rfl, hb⟩; have n0_ := Aside0.mk (below_step (by repeat (first | (with_reducible first | exact HB.out | apply below_alloc | apply pw_below_drewN | apply below_drew1) | exact HB.out)) hb); clear HB; have HB := n0_; clear n0_; (try clear hb); (try clear hb2); (try clear hk); (try clear hi)))
                            go_ret
                            exact ⟨by first | rfl | (simp [errW_none, errW_some] <;> rfl) | (simp [*, errW_none, errW_some] <;> rfl), by repeat (first | (with_reducible first | exact HB.out | apply below_alloc | apply pw_below_drewN | apply below_drew1) | exact HB.out)⟩
                        · rw [if_neg c20] at H
                          exact absurd H (by simp)
                      · replace c19 := Bool.eq_false_iff.mpr c19
                        subst c19
                        have H1 : (none) = some r := by rw [if_neg (show ¬ (false = true) by decide)] at H; exact H
                        clear H
                        have H := H1
                        clear H1
                        exact absurd H (by simp)
                    · rw [if_neg c18] at H
                      exact absurd H (by simp)
                  · rw [if_neg c16] at H
                    exact absurd H (by simp)
                · rw [if_neg c14] at H
                  exact absurd H (by simp)
              · rw [if_neg c13] at H
                exact absurd H (by simp)
            · replace c12 := Bool.eq_false_iff.mpr c12
              subst c12
              have H1 : (none) = some r := by rw [if_neg (show ¬ (false = true) by decide)] at H; exact H
              clear H
              have H := H1
              clear H1
              exact absurd H (by simp)
        · rw [if_neg c10] at H
          exact absurd H (by simp)
      · replace c9 := Bool.eq_false_iff.mpr c9
        subst c9
        have H1 : (none) = some r := by rw [if_neg (show ¬ (false = true) by decide)] at H; exact H
        clear H
        have H := H1
        clear H1
        exact absurd H (by simp)
    · rw [if_neg c8] at H
      exact absurd H (by simp)
  · replace c7 := Bool.eq_false_iff.mpr c7
    subst c7
    have H1 : (none) = some r := by rw [if_neg (show ¬ (false = true) by decide)] at H; exact H
    clear H
    have H := H1
    clear H1
    exact absurd H (by simp)

end Go.Proofs.YtcgchblljhbdaaaDoor.Z
