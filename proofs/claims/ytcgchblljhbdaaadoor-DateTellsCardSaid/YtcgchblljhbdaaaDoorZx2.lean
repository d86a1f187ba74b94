-- Printed by this session's own program (wip/xprint) out of the translation. Lean checks it.
import Derived.Test.YtcgchblljhbdaaaDoorZx0
import Derived.Test.YtcgchblljhbdaaaDoorZx1
namespace Go.Proofs.YtcgchblljhbdaaaDoor.Z
open Go.Proofs.YtcgchblljhbdaaaDoor
open Go.RowKit Go.Proofs.YtcgchblljhbdaaaDoorW.PrintWords Go.Proofs.YtcgchblljhbdaaaDoorW.PrintLast Go.Proofs.YtcgchblljhbdaaaDoorW.PrintMore
attribute [local go_sem] max2_int min2_int max_two min_two max_three min_three max_four min_four   -- for this text's walks alone
set_option linter.unusedVariables false
set_option linter.unusedSimpArgs false

/-! ### date_Parse: function 15 -/
mutual
def date_Parse.j0 : Nat → Int → Int → Int → Int → Int → Int → Bool → Option (Int × Bool)
  | 0, _, _, _, _, _, _, _ => none
  | k + 1, x6, x7, x8, x10, x11, x12, x70 => if x70 = true then (some (0, false)) else ((date_ahead.f k x6).bind fun t122 => (date_Parse.l0 k x6 x7 x10 x11 x12 (wrap64 ((wrap64 (t122 + x8)) - 1)) 1))
def date_Parse.l0 : Nat → Int → Int → Int → Int → Int → Int → Int → Option (Int × Bool)
  | 0, _, _, _, _, _, _, _ => none
  | k + 1, x6, x7, x10, x11, x12, x14, x15 => if x15 < x7 then ((date_long.f k x6 x15).bind fun t123 => (date_Parse.l0 k x6 x7 x10 x11 x12 (wrap64 (x14 + t123)) (wrap64 (x15 + 1)))) else (some (IntKind.u64.wrap (wrap64 ((wrap64 ((wrap64 ((wrap64 (x14 * 86400)) + (wrap64 (x10 * 3600)))) + (wrap64 (x11 * 60)))) + x12)), true))
end
def date_Parse.f (k : Nat) (a0 : ByteArray) (a1 : ByteArray) : Option (Int × Bool) := (date_three.f k a0 47 4).bind fun bt113 => ((date_three.f k a1 58 2).bind fun bt117 => (if bt113.2.2.2 = true then (if bt117.2.2.2 = true then (if bt113.1 < 1970 then (date_Parse.j0 k bt113.1 bt113.2.1 bt113.2.2.1 bt117.1 bt117.2.1 bt117.2.2.1 true) else (if bt113.2.1 < 1 then (date_Parse.j0 k bt113.1 bt113.2.1 bt113.2.2.1 bt117.1 bt117.2.1 bt117.2.2.1 true) else (if bt113.2.1 > 12 then (date_Parse.j0 k bt113.1 bt113.2.1 bt113.2.2.1 bt117.1 bt117.2.1 bt117.2.2.1 true) else (if bt113.2.2.1 < 1 then (date_Parse.j0 k bt113.1 bt113.2.1 bt113.2.2.1 bt117.1 bt117.2.1 bt117.2.2.1 true) else ((date_long.f k bt113.1 bt113.2.1).bind fun t121 => (if bt113.2.2.1 > t121 then (date_Parse.j0 k bt113.1 bt113.2.1 bt113.2.2.1 bt117.1 bt117.2.1 bt117.2.2.1 true) else (if bt117.1 > 23 then (date_Parse.j0 k bt113.1 bt113.2.1 bt113.2.2.1 bt117.1 bt117.2.1 bt117.2.2.1 true) else (if bt117.2.1 > 59 then (date_Parse.j0 k bt113.1 bt113.2.1 bt113.2.2.1 bt117.1 bt117.2.1 bt117.2.2.1 true) else (date_Parse.j0 k bt113.1 bt113.2.1 bt113.2.2.1 bt117.1 bt117.2.1 bt117.2.2.1 (decide (bt117.2.2.1 > 59))))))))))) else (date_Parse.j0 k bt113.1 bt113.2.1 bt113.2.2.1 bt117.1 bt117.2.1 bt117.2.2.1 true)) else (date_Parse.j0 k bt113.1 bt113.2.1 bt113.2.2.1 bt117.1 bt117.2.1 bt117.2.2.1 true)))
theorem date_Parse.mono_l : ∀ k, (∀ y0 y1 y2 y3 y4 y5 y6, LeO (date_Parse.j0 k y0 y1 y2 y3 y4 y5 y6) (date_Parse.j0 (k + 1) y0 y1 y2 y3 y4 y5 y6)) ∧ (∀ y0 y1 y2 y3 y4 y5 y6, LeO (date_Parse.l0 k y0 y1 y2 y3 y4 y5 y6) (date_Parse.l0 (k + 1) y0 y1 y2 y3 y4 y5 y6))
  | 0 => ⟨fun _ _ _ _ _ _ _ r h => by simp [date_Parse.j0] at h, fun _ _ _ _ _ _ _ r h => by simp [date_Parse.l0] at h⟩
  | k + 1 => by
    obtain ⟨ih0, ih1⟩ := date_Parse.mono_l k
    refine ⟨?_, ?_⟩
    · intro y0 y1 y2 y3 y4 y5 y6
      unfold date_Parse.j0
      repeat' first
      | (with_reducible exact ih0 _ _ _ _ _ _ _)
      | (with_reducible exact ih1 _ _ _ _ _ _ _)
      | (with_reducible exact date_ahead.mono _ _)
      | (with_reducible exact date_long.mono _ _ _)
      | (with_reducible exact date_three.mono _ _ _ _)
      | (with_reducible exact LeO.refl _)
      | (with_reducible exact LeO.none _)
      | (with_reducible refine LeO.ite ?_ ?_)
      | (with_reducible refine LeO.bind ?_ (fun _ => ?_))
      | exact ih0 _ _ _ _ _ _ _
      | exact ih1 _ _ _ _ _ _ _
      | exact date_ahead.mono _ _
      | exact date_long.mono _ _ _
      | exact date_three.mono _ _ _ _
      | exact LeO.none _
      | refine LeO.ite ?_ ?_
      | refine LeO.bind ?_ (fun _ => ?_)
    · intro y0 y1 y2 y3 y4 y5 y6
      unfold date_Parse.l0
      repeat' first
      | (with_reducible exact ih0 _ _ _ _ _ _ _)
      | (with_reducible exact ih1 _ _ _ _ _ _ _)
      | (with_reducible exact date_ahead.mono _ _)
      | (with_reducible exact date_long.mono _ _ _)
      | (with_reducible exact date_three.mono _ _ _ _)
      | (with_reducible exact LeO.refl _)
      | (with_reducible exact LeO.none _)
      | (with_reducible refine LeO.ite ?_ ?_)
      | (with_reducible refine LeO.bind ?_ (fun _ => ?_))
      | exact ih0 _ _ _ _ _ _ _
      | exact ih1 _ _ _ _ _ _ _
      | exact date_ahead.mono _ _
      | exact date_long.mono _ _ _
      | exact date_three.mono _ _ _ _
      | exact LeO.none _
      | refine LeO.ite ?_ ?_
      | refine LeO.bind ?_ (fun _ => ?_)
theorem date_Parse.mono : ∀ a0 a1 k, LeO (date_Parse.f k a0 a1) (date_Parse.f (k + 1) a0 a1) := by
  intro a0 a1 k
  obtain ⟨ih0, ih1⟩ := date_Parse.mono_l k
  unfold date_Parse.f
  repeat' first
      | (with_reducible exact ih0 _ _ _ _ _ _ _)
      | (with_reducible exact ih1 _ _ _ _ _ _ _)
      | (with_reducible exact date_ahead.mono _ _)
      | (with_reducible exact date_long.mono _ _ _)
      | (with_reducible exact date_three.mono _ _ _ _)
      | (with_reducible exact LeO.refl _)
      | (with_reducible exact LeO.none _)
      | (with_reducible refine LeO.ite ?_ ?_)
      | (with_reducible refine LeO.bind ?_ (fun _ => ?_))
      | exact ih0 _ _ _ _ _ _ _
      | exact ih1 _ _ _ _ _ _ _
      | exact date_ahead.mono _ _
      | exact date_long.mono _ _ _
      | exact date_three.mono _ _ _ _
      | exact LeO.none _
      | refine LeO.ite ?_ ?_
      | refine LeO.bind ?_ (fun _ => ?_)
set_option maxHeartbeats 8000000 in
set_option maxRecDepth 100000 in
theorem date_Parse.calls (k : Nat) (a0 : ByteArray) (a1 : ByteArray) (r1 : Int) (r2 : Bool) (w : World) (h : date_Parse.f k a0 a1 = some (r1, r2)) :
    Calls Tryd.prog 15 #[.string a0, .string a1] w fun e w' => e = .returned (.tuple #[.int .u64 r1, .bool r2]) ∧ Below w.heap.size w w' := by
  have HB := Aside0.mk (Below.refl w.heap.size w)
  have H : ((date_three.f k a0 47 4).bind fun bt113 => ((date_three.f k a1 58 2).bind fun bt117 => (if bt113.2.2.2 = true then (if bt117.2.2.2 = true then (if bt113.1 < 1970 then (date_Parse.j0 k bt113.1 bt113.2.1 bt113.2.2.1 bt117.1 bt117.2.1 bt117.2.2.1 true) else (if bt113.2.1 < 1 then (date_Parse.j0 k bt113.1 bt113.2.1 bt113.2.2.1 bt117.1 bt117.2.1 bt117.2.2.1 true) else (if bt113.2.1 > 12 then (date_Parse.j0 k bt113.1 bt113.2.1 bt113.2.2.1 bt117.1 bt117.2.1 bt117.2.2.1 true) else (if bt113.2.2.1 < 1 then (date_Parse.j0 k bt113.1 bt113.2.1 bt113.2.2.1 bt117.1 bt117.2.1 bt117.2.2.1 true) else ((date_long.f k bt113.1 bt113.2.1).bind fun t121 => (if bt113.2.2.1 > t121 then (date_Parse.j0 k bt113.1 bt113.2.1 bt113.2.2.1 bt117.1 bt117.2.1 bt117.2.2.1 true) else (if bt117.1 > 23 then (date_Parse.j0 k bt113.1 bt113.2.1 bt113.2.2.1 bt117.1 bt117.2.1 bt117.2.2.1 true) else (if bt117.2.1 > 59 then (date_Parse.j0 k bt113.1 bt113.2.1 bt113.2.2.1 bt117.1 bt117.2.1 bt117.2.2.1 true) else (date_Parse.j0 k bt113.1 bt113.2.1 bt113.2.2.1 bt117.1 bt117.2.1 bt117.2.2.1 (decide (bt117.2.2.1 > 59))))))))))) else (date_Parse.j0 k bt113.1 bt113.2.1 bt113.2.2.1 bt117.1 bt117.2.1 bt117.2.2.1 true)) else (date_Parse.j0 k bt113.1 bt113.2.1 bt113.2.2.1 bt117.1 bt117.2.1 bt117.2.2.1 true)))) = some (r1, r2) := h
  clear h
  replace H := Option.bind_eq_some_iff.mp H
  obtain ⟨⟨t113, t114, t115, t116⟩, A30, H⟩ := H
  replace H : ((date_three.f k a1 58 2).bind fun bt117 => (if t116 = true then (if bt117.2.2.2 = true then (if t113 < 1970 then (date_Parse.j0 k t113 t114 t115 bt117.1 bt117.2.1 bt117.2.2.1 true) else (if t114 < 1 then (date_Parse.j0 k t113 t114 t115 bt117.1 bt117.2.1 bt117.2.2.1 true) else (if t114 > 12 then (date_Parse.j0 k t113 t114 t115 bt117.1 bt117.2.1 bt117.2.2.1 true) else (if t115 < 1 then (date_Parse.j0 k t113 t114 t115 bt117.1 bt117.2.1 bt117.2.2.1 true) else ((date_long.f k t113 t114).bind fun t121 => (if t115 > t121 then (date_Parse.j0 k t113 t114 t115 bt117.1 bt117.2.1 bt117.2.2.1 true) else (if bt117.1 > 23 then (date_Parse.j0 k t113 t114 t115 bt117.1 bt117.2.1 bt117.2.2.1 true) else (if bt117.2.1 > 59 then (date_Parse.j0 k t113 t114 t115 bt117.1 bt117.2.1 bt117.2.2.1 true) else (date_Parse.j0 k t113 t114 t115 bt117.1 bt117.2.1 bt117.2.2.1 (decide (bt117.2.2.1 > 59))))))))))) else (date_Parse.j0 k t113 t114 t115 bt117.1 bt117.2.1 bt117.2.2.1 true)) else (date_Parse.j0 k t113 t114 t115 bt117.1 bt117.2.1 bt117.2.2.1 true))) = some (r1, r2) := H
  have A3 := Aside0.mk A30
  clear A30
  replace H := Option.bind_eq_some_iff.mp H
  obtain ⟨⟨t117, t118, t119, t120⟩, A40, H⟩ := H
  replace H : (if t116 = true then (if t120 = true then (if t113 < 1970 then (date_Parse.j0 k t113 t114 t115 t117 t118 t119 true) else (if t114 < 1 then (date_Parse.j0 k t113 t114 t115 t117 t118 t119 true) else (if t114 > 12 then (date_Parse.j0 k t113 t114 t115 t117 t118 t119 true) else (if t115 < 1 then (date_Parse.j0 k t113 t114 t115 t117 t118 t119 true) else ((date_long.f k t113 t114).bind fun t121 => (if t115 > t121 then (date_Parse.j0 k t113 t114 t115 t117 t118 t119 true) else (if t117 > 23 then (date_Parse.j0 k t113 t114 t115 t117 t118 t119 true) else (if t118 > 59 then (date_Parse.j0 k t113 t114 t115 t117 t118 t119 true) else (date_Parse.j0 k t113 t114 t115 t117 t118 t119 (decide (t119 > 59))))))))))) else (date_Parse.j0 k t113 t114 t115 t117 t118 t119 true)) else (date_Parse.j0 k t113 t114 t115 t117 t118 t119 true)) = some (r1, r2) := H
  have A4 := Aside0.mk A40
  clear A40
  have HC5 := Aside0.mk H
  clear H
  go_enter Tryd.func15, Tryd.ntmps15
  go_upto_region 3 with (first | ((with_reducible refine gate_callee (f := 40) rfl ?_); refine goesL_ (some 18) rfl rfl Tryd.func40 (by kernel_rfl) rfl #[.string a0, .int .u8 47, .int .i64 4] rfl (by (try simp only [List.map_toArray, List.map_cons, List.map_nil]); first | done | rfl | (simp only [List.length_drop, List.length_take]; rfl)) ?_; (with_reducible refine (date_three.calls k a0 47 4 t113 t114 t115 t116 _ A3.out).mono ?_); rintro e w6 ⟨rfl, hb⟩; refine ⟨_, rfl, ?_⟩; have n0_ := Aside0.mk (below_step (by repeat (first | (with_reducible first | exact HB.out | apply below_alloc | apply pw_below_drewN | apply below_drew1) | exact HB.out)) hb); clear HB; have HB := n0_; clear n0_; (try clear hb); (try clear hb2); (try clear hk); (try clear hi)) | ((with_reducible refine gate_callee (f := 40) rfl ?_); refine goesL_ (some 25) rfl rfl Tryd.func40 (by kernel_rfl) rfl #[.string a1, .int .u8 58, .int .i64 2] rfl (by (try simp only [List.map_toArray, List.map_cons, List.map_nil]); first | done | rfl | (simp only [List.length_drop, List.length_take]; rfl)) ?_; (with_reducible refine (date_three.calls k a1 58 2 t117 t118 t119 t120 _ A4.out).mono ?_); rintro e w7 ⟨rfl, hb⟩; refine ⟨_, rfl, ?_⟩; have n0_ := Aside0.mk (below_step (by repeat (first | (with_reducible first | exact HB.out | apply below_alloc | apply pw_below_drewN | apply below_drew1) | exact HB.out)) hb); clear HB; have HB := n0_; clear n0_; (try clear hb); (try clear hb2); (try clear hk); (try clear hi)))
  (try simp only [Act.put, List.setIfInBounds_toArray, List.set_cons_zero, List.set_cons_succ])
  go_cut [70] (fun v70 wc => ∃ (kq : Nat) (x70_4 : Bool), v70 = .bool x70_4 ∧ Aside0 (date_Parse.j0 kq t113 t114 t115 t117 t118 t119 x70_4 = some (r1, r2)) ∧ Aside0 (kq ≤ k) ∧ Aside0 (Below w.heap.size w wc))
  case first =>
    have H := HC5.out
    clear HC5
    by_cases c8 : t116 = true
    · subst c8
      have H1 : (if t120 = true then (if t113 < 1970 then (date_Parse.j0 k t113 t114 t115 t117 t118 t119 true) else (if t114 < 1 then (date_Parse.j0 k t113 t114 t115 t117 t118 t119 true) else (if t114 > 12 then (date_Parse.j0 k t113 t114 t115 t117 t118 t119 true) else (if t115 < 1 then (date_Parse.j0 k t113 t114 t115 t117 t118 t119 true) else ((date_long.f k t113 t114).bind fun t121 => (if t115 > t121 then (date_Parse.j0 k t113 t114 t115 t117 t118 t119 true) else (if t117 > 23 then (date_Parse.j0 k t113 t114 t115 t117 t118 t119 true) else (if t118 > 59 then (date_Parse.j0 k t113 t114 t115 t117 t118 t119 true) else (date_Parse.j0 k t113 t114 t115 t117 t118 t119 (decide (t119 > 59))))))))))) else (date_Parse.j0 k t113 t114 t115 t117 t118 t119 true)) = some (r1, r2) := by rw [if_pos rfl] at H; exact H
      clear H
      have H := H1
      clear H1
      by_cases c9 : t120 = true
      · subst c9
        have H1 : (if t113 < 1970 then (date_Parse.j0 k t113 t114 t115 t117 t118 t119 true) else (if t114 < 1 then (date_Parse.j0 k t113 t114 t115 t117 t118 t119 true) else (if t114 > 12 then (date_Parse.j0 k t113 t114 t115 t117 t118 t119 true) else (if t115 < 1 then (date_Parse.j0 k t113 t114 t115 t117 t118 t119 true) else ((date_long.f k t113 t114).bind fun t121 => (if t115 > t121 then (date_Parse.j0 k t113 t114 t115 t117 t118 t119 true) else (if t117 > 23 then (date_Parse.j0 k t113 t114 t115 t117 t118 t119 true) else (if t118 > 59 then (date_Parse.j0 k t113 t114 t115 t117 t118 t119 true) else (date_Parse.j0 k t113 t114 t115 t117 t118 t119 (decide (t119 > 59))))))))))) = some (r1, r2) := by rw [if_pos rfl] at H; exact H
        clear H
        have H := H1
        clear H1
        by_cases c10 : t113 < 1970
        · rw [if_pos c10] at H
          have c10b0 : decide (t113 < 1970) = true := decide_eq_true c10
          clear c10
          (first | rw [c10b0] | (simp only [i64_w, i32_w]; rw [c10b0]) | skip)
          have H' := Aside0.mk H
          clear H
          go_wp2
          go_meet
          case rel => exact ⟨_, (true), (by first | rfl | (simp only [i64_w]; done) | (simp; done) | (simp [*]; done)), H', ⟨by first | omega | exact Nat.le_refl _⟩, ⟨by repeat (first | (with_reducible first | exact HB.out | apply below_alloc | apply pw_below_drewN | apply below_drew1) | exact HB.out)⟩⟩
        · rw [if_neg c10] at H
          have c10b0 : decide (t113 < 1970) = false := decide_eq_false c10
          clear c10
          (first | rw [c10b0] | (simp only [i64_w, i32_w]; rw [c10b0]) | skip)
          by_cases c11 : t114 < 1
          · rw [if_pos c11] at H
            have c11b0 : decide (t114 < 1) = true := decide_eq_true c11
            clear c11
            have H' := Aside0.mk H
            clear H
            go_wp2
            go_meet
            case rel => exact ⟨_, (true), (by first | rfl | (simp only [i64_w]; done) | (simp; done) | (simp [*]; done)), H', ⟨by first | omega | exact Nat.le_refl _⟩, ⟨by repeat (first | (with_reducible first | exact HB.out | apply below_alloc | apply pw_below_drewN | apply below_drew1) | exact HB.out)⟩⟩
          · rw [if_neg c11] at H
            have c11b0 : decide (t114 < 1) = false := decide_eq_false c11
            clear c11
            by_cases c12 : t114 > 12
            · rw [if_pos c12] at H
              have c12b0 : decide (12 < t114) = true := decide_eq_true c12
              clear c12
              have H' := Aside0.mk H
              clear H
              go_wp2
              go_meet
              case rel => exact ⟨_, (true), (by first | rfl | (simp only [i64_w]; done) | (simp; done) | (simp [*]; done)), H', ⟨by first | omega | exact Nat.le_refl _⟩, ⟨by repeat (first | (with_reducible first | exact HB.out | apply below_alloc | apply pw_below_drewN | apply below_drew1) | exact HB.out)⟩⟩
            · rw [if_neg c12] at H
              have c12b0 : decide (12 < t114) = false := decide_eq_false c12
              clear c12
              by_cases c13 : t115 < 1
              · rw [if_pos c13] at H
                have c13b0 : decide (t115 < 1) = true := decide_eq_true c13
                clear c13
                have H' := Aside0.mk H
                clear H
                go_wp2
                go_meet
                case rel => exact ⟨_, (true), (by first | rfl | (simp only [i64_w]; done) | (simp; done) | (simp [*]; done)), H', ⟨by first | omega | exact Nat.le_refl _⟩, ⟨by repeat (first | (with_reducible first | exact HB.out | apply below_alloc | apply pw_below_drewN | apply below_drew1) | exact HB.out)⟩⟩
              · rw [if_neg c13] at H
                have c13b0 : decide (t115 < 1) = false := decide_eq_false c13
                clear c13
                replace H := Option.bind_eq_some_iff.mp H
                obtain ⟨t121, A140, H⟩ := H
                replace H : (if t115 > t121 then (date_Parse.j0 k t113 t114 t115 t117 t118 t119 true) else (if t117 > 23 then (date_Parse.j0 k t113 t114 t115 t117 t118 t119 true) else (if t118 > 59 then (date_Parse.j0 k t113 t114 t115 t117 t118 t119 true) else (date_Parse.j0 k t113 t114 t115 t117 t118 t119 (decide (t119 > 59)))))) = some (r1, r2) := H
                have A14 := Aside0.mk A140
                clear A140
                by_cases c15 : t115 > t121
                · rw [if_pos c15] at H
                  have c15b0 : decide (t121 < t115) = true := decide_eq_true c15
                  clear c15
                  have H' := Aside0.mk H
                  clear H
                  go_wp2_with (first | (go_at_call 41; (with_reducible refine (date_long.calls k t113 t114 t121 _ A14.out).mono ?_); rintro e w' ⟨rfl, ⟨nd, rfl⟩⟩))
                  go_meet
                  case rel => exact ⟨_, (true), (by first | rfl | (simp only [i64_w]; done) | (simp; done) | (simp [*]; done)), H', ⟨by first | omega | exact Nat.le_refl _⟩, ⟨by repeat (first | (with_reducible first | exact HB.out | apply below_alloc | apply pw_below_drewN | apply below_drew1) | exact HB.out)⟩⟩
                · rw [if_neg c15] at H
                  have c15b0 : decide (t121 < t115) = false := decide_eq_false c15
                  clear c15
                  by_cases c16 : t117 > 23
                  · rw [if_pos c16] at H
                    have c16b0 : decide (23 < t117) = true := decide_eq_true c16
                    clear c16
                    have H' := Aside0.mk H
                    clear H
                    go_wp2_with (first | (go_at_call 41; (with_reducible refine (date_long.calls k t113 t114 t121 _ A14.out).mono ?_); rintro e w' ⟨rfl, ⟨nd, rfl⟩⟩))
                    go_meet
                    case rel => exact ⟨_, (true), (by first | rfl | (simp only [i64_w]; done) | (simp; done) | (simp [*]; done)), H', ⟨by first | omega | exact Nat.le_refl _⟩, ⟨by repeat (first | (with_reducible first | exact HB.out | apply below_alloc | apply pw_below_drewN | apply below_drew1) | exact HB.out)⟩⟩
                  · rw [if_neg c16] at H
                    have c16b0 : decide (23 < t117) = false := decide_eq_false c16
                    clear c16
                    by_cases c17 : t118 > 59
                    · rw [if_pos c17] at H
                      have c17b0 : decide (59 < t118) = true := decide_eq_true c17
                      clear c17
                      have H' := Aside0.mk H
                      clear H
                      go_wp2_with (first | (go_at_call 41; (with_reducible refine (date_long.calls k t113 t114 t121 _ A14.out).mono ?_); rintro e w' ⟨rfl, ⟨nd, rfl⟩⟩))
                      go_meet
                      case rel => exact ⟨_, (true), (by first | rfl | (simp only [i64_w]; done) | (simp; done) | (simp [*]; done)), H', ⟨by first | omega | exact Nat.le_refl _⟩, ⟨by repeat (first | (with_reducible first | exact HB.out | apply below_alloc | apply pw_below_drewN | apply below_drew1) | exact HB.out)⟩⟩
                    · rw [if_neg c17] at H
                      have c17b0 : decide (59 < t118) = false := decide_eq_false c17
                      clear c17
                      have H' := Aside0.mk H
                      clear H
                      go_wp2_with (first | (go_at_call 41; (with_reducible refine (date_long.calls k t113 t114 t121 _ A14.out).mono ?_); rintro e w' ⟨rfl, ⟨nd, rfl⟩⟩))
                      go_meet
                      case rel => exact ⟨_, (decide (t119 > 59)), (by first | rfl | (simp only [i64_w]; done) | (simp; done) | (simp [*]; done)), H', ⟨by first | omega | exact Nat.le_refl _⟩, ⟨by repeat (first | (with_reducible first | exact HB.out | apply below_alloc | apply pw_below_drewN | apply below_drew1) | exact HB.out)⟩⟩
      · replace c9 := Bool.eq_false_iff.mpr c9
        subst c9
        have H1 : (date_Parse.j0 k t113 t114 t115 t117 t118 t119 true) = some (r1, r2) := by rw [if_neg (show ¬ (false = true) by decide)] at H; exact H
        clear H
        have H := H1
        clear H1
        have H' := Aside0.mk H
        clear H
        go_wp2
        go_meet
        case rel => exact ⟨_, (true), (by first | rfl | (simp only [i64_w]; done) | (simp; done) | (simp [*]; done)), H', ⟨by first | omega | exact Nat.le_refl _⟩, ⟨by repeat (first | (with_reducible first | exact HB.out | apply below_alloc | apply pw_below_drewN | apply below_drew1) | exact HB.out)⟩⟩
    · replace c8 := Bool.eq_false_iff.mpr c8
      subst c8
      have H1 : (date_Parse.j0 k t113 t114 t115 t117 t118 t119 true) = some (r1, r2) := by rw [if_neg (show ¬ (false = true) by decide)] at H; exact H
      clear H
      have H := H1
      clear H1
      have H' := Aside0.mk H
      clear H
      go_wp2
      go_meet
      case rel => exact ⟨_, (true), (by first | rfl | (simp only [i64_w]; done) | (simp; done) | (simp [*]; done)), H', ⟨by first | omega | exact Nat.le_refl _⟩, ⟨by repeat (first | (with_reducible first | exact HB.out | apply below_alloc | apply pw_below_drewN | apply below_drew1) | exact HB.out)⟩⟩
  case rest =>
    clear HC5
    try clear c1
    try clear p2
    try clear c4
    try clear c8
    try clear c9
    try clear c10
    try clear c10b0
    try clear c11
    try clear c11b0
    try clear c12
    try clear c12b0
    try clear c13
    try clear c13b0
    try clear c15
    try clear c15b0
    try clear c16
    try clear c16b0
    try clear c17
    try clear c17b0
    obtain ⟨kq, x70_4, rfl, HA, HJ4, HB⟩ := hcut
    cases kq with
    | zero => exact absurd HA.out (by simp [date_Parse.j0])
    | succ kj4 =>
      have H := HA.out
      clear HA
      simp only [date_Parse.j0] at H
      by_cases c18 : x70_4 = true
      · subst c18
        have H1 : (some (0, false)) = some (r1, r2) := by rw [if_pos rfl] at H; exact H
        clear H
        have H := H1
        clear H1
        simp only [Option.some.injEq, Prod.mk.injEq] at H
        obtain ⟨rfl, rfl⟩ := H
        go_wp2
        go_ret2
        exact ⟨by first | rfl | (simp [errW_none, errW_some] <;> rfl) | (simp [*, errW_none, errW_some] <;> rfl), by repeat (first | (with_reducible first | exact HB.out | apply below_alloc | apply pw_below_drewN | apply below_drew1) | exact HB.out)⟩
      · replace c18 := Bool.eq_false_iff.mpr c18
        subst c18
        have H1 : ((date_ahead.f kj4 t113).bind fun t122 => (date_Parse.l0 kj4 t113 t114 t117 t118 t119 (wrap64 ((wrap64 (t122 + t115)) - 1)) 1)) = some (r1, r2) := by rw [if_neg (show ¬ (false = true) by decide)] at H; exact H
        clear H
        have H := H1
        clear H1
        replace H := Option.bind_eq_some_iff.mp H
        obtain ⟨t122, A190, H⟩ := H
        replace H : (date_Parse.l0 kj4 t113 t114 t117 t118 t119 (wrap64 ((wrap64 (t122 + t115)) - 1)) 1) = some (r1, r2) := H
        have A19 := Aside0.mk A190
        clear A190
        have H' := Aside0.mk H
        clear H
        go_wp2_with (first | ((with_reducible refine gate_callee (f := 42) rfl ?_); refine goesL_ (some 72) rfl rfl Tryd.func42 (by kernel_rfl) rfl #[.int .i64 t113] rfl (by (try simp only [List.map_toArray, List.map_cons, List.map_nil]); first | done | rfl | (simp only [List.length_drop, List.length_take]; rfl)) ?_; (with_reducible refine (date_ahead.calls kj4 t113 t122 _ A19.out).mono ?_); rintro e w' ⟨rfl, ⟨nd, rfl⟩⟩; refine ⟨_, rfl, ?_⟩))
        go_loopg [14, 15] kj4 (fun kq v14 v15 w' => ∃ (x14_2 : Int) (x15_2 : Int), v14 = .int .i64 x14_2 ∧ v15 = .int .i64 x15_2 ∧ Aside0 (date_Parse.l0 kq t113 t114 t117 t118 t119 x14_2 x15_2 = some (r1, r2)) ∧ Aside0 (kq ≤ kj4) ∧ Aside0 (Below w.heap.size w w'))
        case atStart => exact ⟨(wrap64 ((wrap64 (t122 + t115)) - 1)), (1), (by first | rfl | (simp only [i64_w]; done) | (simp; done) | (simp [*]; done)), (by first | rfl | (simp only [i64_w]; done) | (simp; done) | (simp [*]; done)), H', ⟨Nat.le_refl _⟩, ⟨by repeat (first | (with_reducible first | exact HB.out | apply below_alloc | apply pw_below_drewN | apply below_drew1) | exact HB.out)⟩⟩
        case round =>
          clear H'
          try clear c1
          try clear p2
          try clear c4
          try clear p6
          try clear c8
          try clear c9
          try clear c10
          try clear c10b0
          try clear c11
          try clear c11b0
          try clear c12
          try clear c12b0
          try clear c13
          try clear c13b0
          try clear c15
          try clear c15b0
          try clear c16
          try clear c16b0
          try clear c17
          try clear c17b0
          try clear c18
          try clear p2
          obtain ⟨x14_2, x15_2, rfl, rfl, HA, HK2, HB⟩ := hrel
          cases gk with
          | zero => exact absurd HA.out (by simp [date_Parse.l0])
          | succ k2 =>
            have H := HA.out
            clear HA
            simp only [date_Parse.l0] at H
            by_cases c20 : x15_2 < t114
            · rw [if_pos c20] at H
              have c20b0 : decide (x15_2 < t114) = true := decide_eq_true c20
              clear c20
              replace H := Option.bind_eq_some_iff.mp H
              obtain ⟨t123, A210, H⟩ := H
              replace H : (date_Parse.l0 k2 t113 t114 t117 t118 t119 (wrap64 (x14_2 + t123)) (wrap64 (x15_2 + 1))) = some (r1, r2) := H
              have A21 := Aside0.mk A210
              clear A210
              have H' := Aside0.mk H
              clear H
              go_wp2_with (first | ((with_reducible refine gate_callee (f := 41) rfl ?_); refine goesL_ (some 84) rfl rfl Tryd.func41 (by kernel_rfl) rfl #[.int .i64 t113, .int .i64 x15_2] rfl (by (try simp only [List.map_toArray, List.map_cons, List.map_nil]); first | done | rfl | (simp only [List.length_drop, List.length_take]; rfl)) ?_; (with_reducible refine (date_long.calls k2 t113 x15_2 t123 _ A21.out).mono ?_); rintro e w' ⟨rfl, ⟨nd, rfl⟩⟩; refine ⟨_, rfl, ?_⟩))
              go_roundg k2
              case measure => have := HJ4.out; have := HK2.out; omega
              case rel => exact ⟨(wrap64 (x14_2 + t123)), (wrap64 (x15_2 + 1)), (by first | rfl | (simp only [i64_w]; done) | (simp; done) | (simp [*]; done)), (by first | rfl | (simp only [i64_w]; done) | (simp; done) | (simp [*]; done)), H', ⟨by have := HJ4.out; have := HK2.out; omega⟩, ⟨by repeat (first | (with_reducible first | exact HB.out | apply below_alloc | apply pw_below_drewN | apply below_drew1) | exact HB.out)⟩⟩
            · rw [if_neg c20] at H
              have c20b0 : decide (x15_2 < t114) = false := decide_eq_false c20
              clear c20
              simp only [Option.some.injEq, Prod.mk.injEq] at H
              obtain ⟨rfl, rfl⟩ := H
              go_wp2
              go_ret2
              exact ⟨by first | rfl | (simp [errW_none, errW_some] <;> rfl) | (simp [*, errW_none, errW_some] <;> rfl), by repeat (first | (with_reducible first | exact HB.out | apply below_alloc | apply pw_below_drewN | apply below_drew1) | exact HB.out)⟩

/-! ### strconv_Itoa: function 67 (a contract of ours) -/
def strconv_Itoa.f (a0 : Int) : Option ByteArray := if -9223372036854775808 ≤ a0 then (if a0 ≤ 9223372036854775807 then some ⟨(Lib.itoa a0).toArray⟩ else none) else none
theorem strconv_Itoa.calls (a0 : Int) (r : ByteArray) (w : World) (hTab : XT.Tabs w) (h : strconv_Itoa.f a0 = some r) :
    Calls Tryd.prog 67 #[.int .i64 a0] w fun e w' => e = .returned (.string r) ∧ Below w.heap.size w w' := by
  unfold strconv_Itoa.f at h
  by_cases h1 : -9223372036854775808 ≤ a0
  · rw [if_pos h1] at h
    by_cases h2 : a0 ≤ 9223372036854775807
    · rw [if_pos h2] at h
      injection h with h
      subst h
      refine (Tryd.strconv_Itoa a0 h1 h2 w hTab).mono ?_
      rintro e w' ⟨rfl, k, os, rfl⟩
      exact ⟨rfl, XT.below_grow' w k os⟩
    · rw [if_neg h2] at h
      cases h
  · rw [if_neg h1] at h
    cases h

/-! ### date_pad: function 44 -/
def date_pad.l0 : Nat → Int → ByteArray → Option (ByteArray)
  | 0, _, _ => none
  | k + 1, x1, x5 => if (x5.size : Int) < x1 then (if 1 + x5.size ≤ 9223372036854775807 then (date_pad.l0 k x1 ((⟨#[48]⟩ : ByteArray) ++ x5)) else (none)) else (some x5)
def date_pad.f (k : Nat) (a0 : Int) (a1 : Int) : Option (ByteArray) := (strconv_Itoa.f a0).bind fun t124 => (date_pad.l0 k a1 t124)
theorem date_pad.mono_l : ∀ k, (∀ y0 y1, LeO (date_pad.l0 k y0 y1) (date_pad.l0 (k + 1) y0 y1))
  | 0 => fun _ _ r h => by simp [date_pad.l0] at h
  | k + 1 => by
    have ih0 := date_pad.mono_l k
    · intro y0 y1
      unfold date_pad.l0
      repeat' first
      | (with_reducible exact ih0 _ _)
      | (with_reducible exact LeO.refl _)
      | (with_reducible exact LeO.none _)
      | (with_reducible refine LeO.ite ?_ ?_)
      | (with_reducible refine LeO.bind ?_ (fun _ => ?_))
      | exact ih0 _ _
      | exact LeO.none _
      | refine LeO.ite ?_ ?_
      | refine LeO.bind ?_ (fun _ => ?_)
theorem date_pad.mono : ∀ a0 a1 k, LeO (date_pad.f k a0 a1) (date_pad.f (k + 1) a0 a1) := by
  intro a0 a1 k
  have ih0 := date_pad.mono_l k
  unfold date_pad.f
  repeat' first
      | (with_reducible exact ih0 _ _)
      | (with_reducible exact LeO.refl _)
      | (with_reducible exact LeO.none _)
      | (with_reducible refine LeO.ite ?_ ?_)
      | (with_reducible refine LeO.bind ?_ (fun _ => ?_))
      | exact ih0 _ _
      | exact LeO.none _
      | refine LeO.ite ?_ ?_
      | refine LeO.bind ?_ (fun _ => ?_)
set_option maxHeartbeats 8000000 in
set_option maxRecDepth 100000 in
theorem date_pad.calls (k : Nat) (a0 : Int) (a1 : Int) (r : ByteArray) (w : World) (hTab : XT.Tabs w) (h : date_pad.f k a0 a1 = some r) :
    Calls Tryd.prog 44 #[.int .i64 a0, .int .i64 a1] w fun e w' => e = .returned (.string r) ∧ Below w.heap.size w w' := by
  have HB := Aside0.mk (Below.refl w.heap.size w)
  have H : ((strconv_Itoa.f a0).bind fun t124 => (date_pad.l0 k a1 t124)) = some r := h
  clear h
  replace H := Option.bind_eq_some_iff.mp H
  obtain ⟨t124, A30, H⟩ := H
  replace H : (date_pad.l0 k a1 t124) = some r := H
  have A3 := Aside0.mk A30
  clear A30
  have H' := Aside0.mk H
  clear H
  go_enter Tryd.func44, Tryd.ntmps44
  go_wp2_with (first | ((with_reducible refine gate_callee (f := 67) rfl ?_); refine goesL_ (some 7) rfl rfl Tryd.func67 (by kernel_rfl) rfl #[.int .i64 a0] rfl (by (try simp only [List.map_toArray, List.map_cons, List.map_nil]); first | done | rfl | (simp only [List.length_drop, List.length_take]; rfl)) ?_; (with_reducible refine (strconv_Itoa.calls a0 t124 _ ?side1 A3.out).mono ?_); (case side1 => exact XT.Tabs.below hTab (by repeat (first | (with_reducible first | exact HB.out | apply below_alloc | apply pw_below_drewN | apply below_drew1) | exact HB.out))); rintro e w4 ⟨rfl, hb⟩; refine ⟨_, rfl, ?_⟩; have n0_ := Aside0.mk (below_step (by repeat (first | (with_reducible first | exact HB.out | apply below_alloc | apply pw_below_drewN | apply below_drew1) | exact HB.out)) hb); clear HB; have HB := n0_; clear n0_; (try clear hb); (try clear hb2); (try clear hk); (try clear hi)))
  go_loopg [5] k (fun kq v5 w' => ∃ (x5_1 : ByteArray), v5 = .string x5_1 ∧ Aside0 (date_pad.l0 kq a1 x5_1 = some r) ∧ Aside0 (kq ≤ k) ∧ Aside0 (Below w.heap.size w w'))
  case atStart => exact ⟨(t124), (by first | rfl | (simp only [i64_w]; done) | (simp; done) | (simp [*]; done)), H', ⟨Nat.le_refl _⟩, ⟨by repeat (first | (with_reducible first | exact HB.out | apply below_alloc | apply pw_below_drewN | apply below_drew1) | exact HB.out)⟩⟩
  case round =>
    clear H'
    try clear p2
    try clear c4
    obtain ⟨x5_1, rfl, HA, HK1, HB⟩ := hrel
    cases gk with
    | zero => exact absurd HA.out (by simp [date_pad.l0])
    | succ k1 =>
      have H := HA.out
      clear HA
      simp only [date_pad.l0] at H
      by_cases c5 : (x5_1.size : Int) < a1
      · rw [if_pos c5] at H
        have c5b0 : decide ((x5_1.size : Int) < a1) = true := decide_eq_true c5
        clear c5
        by_cases c6 : 1 + x5_1.size ≤ 9223372036854775807
        · rw [if_pos c6] at H
          have c6b0 := eq_true c6
          have c6b1 : decide (1 + x5_1.size ≤ 9223372036854775807) = true := decide_eq_true c6
          try have c6b2 : (9223372036854775807 < 1 + x5_1.size) = False := eq_false (Nat.not_lt.2 c6)
          have H' := Aside0.mk H
          clear H
          go_wp2
          go_roundg k1
          case measure => have := HK1.out; omega
          case rel => exact ⟨((⟨#[48]⟩ : ByteArray) ++ x5_1), (by first | rfl | (simp only [i64_w]; done) | (simp; done) | (simp [*]; done)), H', ⟨by have := HK1.out; omega⟩, ⟨by repeat (first | (with_reducible first | exact HB.out | apply below_alloc | apply pw_below_drewN | apply below_drew1) | exact HB.out)⟩⟩
        · rw [if_neg c6] at H
          exact absurd H (by simp)
      · rw [if_neg c5] at H
        have c5b0 : decide ((x5_1.size : Int) < a1) = false := decide_eq_false c5
        clear c5
        obtain rfl := Option.some.inj H
        go_wp2
        go_ret
        exact ⟨by first | rfl | (simp [errW_none, errW_some] <;> rfl) | (simp [*, errW_none, errW_some] <;> rfl), by repeat (first | (with_reducible first | exact HB.out | apply below_alloc | apply pw_below_drewN | apply below_drew1) | exact HB.out)⟩

/-! ### date_Print: function 17 -/
mutual
def date_Print.j1 : Nat → Int → Int → Int → Option (ByteArray × ByteArray × Bool)
  | 0, _, _, _ => none
  | k + 1, x5, x6, x7 => date_Print.l1 k x5 x6 x7 1
def date_Print.l1 : Nat → Int → Int → Int → Int → Option (ByteArray × ByteArray × Bool)
  | 0, _, _, _, _ => none
  | k + 1, x5, x6, x7, x9 => (date_long.f k x7 x9).bind fun t126 => (if x5 ≥ t126 then ((date_long.f k x7 x9).bind fun t127 => (date_Print.l1 k (wrap64 (x5 - t127)) x6 x7 (wrap64 (x9 + 1)))) else ((date_pad.f k x7 4).bind fun t128 => (if t128.size + 1 ≤ 9223372036854775807 then ((date_pad.f k x9 2).bind fun t129 => (if t128.size + 1 + t129.size ≤ 9223372036854775807 then (if t128.size + 1 + t129.size + 1 ≤ 9223372036854775807 then ((date_pad.f k (wrap64 (x5 + 1)) 2).bind fun t130 => (if t128.size + 1 + t129.size + 1 + t130.size ≤ 9223372036854775807 then ((date_pad.f k (wrap64 (Int.tdiv x6 3600)) 2).bind fun t131 => (if t131.size + 1 ≤ 9223372036854775807 then ((date_pad.f k (Int.tmod (wrap64 (Int.tdiv x6 60)) 60) 2).bind fun t132 => (if t131.size + 1 + t132.size ≤ 9223372036854775807 then (if t131.size + 1 + t132.size + 1 ≤ 9223372036854775807 then ((date_pad.f k (Int.tmod x6 60) 2).bind fun t133 => (if t131.size + 1 + t132.size + 1 + t133.size ≤ 9223372036854775807 then (some ((((t128 ++ (⟨#[47]⟩ : ByteArray)) ++ t129) ++ (⟨#[47]⟩ : ByteArray)) ++ t130, (((t131 ++ (⟨#[58]⟩ : ByteArray)) ++ t132) ++ (⟨#[58]⟩ : ByteArray)) ++ t133, true)) else (none))) else (none)) else (none))) else (none))) else (none))) else (none)) else (none))) else (none))))
def date_Print.l0 : Nat → Int → Int → Int → Option (ByteArray × ByteArray × Bool)
  | 0, _, _, _ => none
  | k + 1, x5, x6, x7 => (date_leap.f x7).bind fun t125 => (if t125 = true then (if x5 < 366 then (date_Print.j1 k x5 x6 x7) else (date_Print.l0 k (wrap64 (x5 - 366)) x6 (wrap64 (x7 + 1)))) else (if x5 < 365 then (date_Print.j1 k x5 x6 x7) else (date_Print.l0 k (wrap64 (x5 - 365)) x6 (wrap64 (x7 + 1)))))
end
def date_Print.f (k : Nat) (a0 : Int) : Option (ByteArray × ByteArray × Bool) := if a0 > 253402300799 then (some ((⟨#[]⟩ : ByteArray), (⟨#[]⟩ : ByteArray), false)) else (date_Print.l0 k (wrap64 (IntKind.u64.wrap (Int.tdiv a0 86400))) (wrap64 (Int.tmod a0 86400)) 1970)
theorem date_Print.mono_l : ∀ k, (∀ y0 y1 y2, LeO (date_Print.j1 k y0 y1 y2) (date_Print.j1 (k + 1) y0 y1 y2)) ∧ (∀ y0 y1 y2 y3, LeO (date_Print.l1 k y0 y1 y2 y3) (date_Print.l1 (k + 1) y0 y1 y2 y3)) ∧ (∀ y0 y1 y2, LeO (date_Print.l0 k y0 y1 y2) (date_Print.l0 (k + 1) y0 y1 y2))
  | 0 => ⟨fun _ _ _ r h => by simp [date_Print.j1] at h, fun _ _ _ _ r h => by simp [date_Print.l1] at h, fun _ _ _ r h => by simp [date_Print.l0] at h⟩
  | k + 1 => by
    obtain ⟨ih0, ih1, ih2⟩ := date_Print.mono_l k
    refine ⟨?_, ?_, ?_⟩
    · intro y0 y1 y2
      unfold date_Print.j1
      repeat' first
      | (with_reducible exact ih0 _ _ _)
      | (with_reducible exact ih1 _ _ _ _)
      | (with_reducible exact ih2 _ _ _)
      | (with_reducible exact date_long.mono _ _ _)
      | (with_reducible exact date_pad.mono _ _ _)
      | (with_reducible exact LeO.refl _)
      | (with_reducible exact LeO.none _)
      | (with_reducible refine LeO.ite ?_ ?_)
      | (with_reducible refine LeO.bind ?_ (fun _ => ?_))
      | exact ih0 _ _ _
      | exact ih1 _ _ _ _
      | exact ih2 _ _ _
      | exact date_long.mono _ _ _
      | exact date_pad.mono _ _ _
      | exact LeO.none _
      | refine LeO.ite ?_ ?_
      | refine LeO.bind ?_ (fun _ => ?_)
    · intro y0 y1 y2 y3
      unfold date_Print.l1
      repeat' first
      | (with_reducible exact ih0 _ _ _)
      | (with_reducible exact ih1 _ _ _ _)
      | (with_reducible exact ih2 _ _ _)
      | (with_reducible exact date_long.mono _ _ _)
      | (with_reducible exact date_pad.mono _ _ _)
      | (with_reducible exact LeO.refl _)
      | (with_reducible exact LeO.none _)
      | (with_reducible refine LeO.ite ?_ ?_)
      | (with_reducible refine LeO.bind ?_ (fun _ => ?_))
      | exact ih0 _ _ _
      | exact ih1 _ _ _ _
      | exact ih2 _ _ _
      | exact date_long.mono _ _ _
      | exact date_pad.mono _ _ _
      | exact LeO.none _
      | refine LeO.ite ?_ ?_
      | refine LeO.bind ?_ (fun _ => ?_)
    · intro y0 y1 y2
      unfold date_Print.l0
      repeat' first
      | (with_reducible exact ih0 _ _ _)
      | (with_reducible exact ih1 _ _ _ _)
      | (with_reducible exact ih2 _ _ _)
      | (with_reducible exact date_long.mono _ _ _)
      | (with_reducible exact date_pad.mono _ _ _)
      | (with_reducible exact LeO.refl _)
      | (with_reducible exact LeO.none _)
      | (with_reducible refine LeO.ite ?_ ?_)
      | (with_reducible refine LeO.bind ?_ (fun _ => ?_))
      | exact ih0 _ _ _
      | exact ih1 _ _ _ _
      | exact ih2 _ _ _
      | exact date_long.mono _ _ _
      | exact date_pad.mono _ _ _
      | exact LeO.none _
      | refine LeO.ite ?_ ?_
      | refine LeO.bind ?_ (fun _ => ?_)
theorem date_Print.mono : ∀ a0 k, LeO (date_Print.f k a0) (date_Print.f (k + 1) a0) := by
  intro a0 k
  obtain ⟨ih0, ih1, ih2⟩ := date_Print.mono_l k
  unfold date_Print.f
  repeat' first
      | (with_reducible exact ih0 _ _ _)
      | (with_reducible exact ih1 _ _ _ _)
      | (with_reducible exact ih2 _ _ _)
      | (with_reducible exact date_long.mono _ _ _)
      | (with_reducible exact date_pad.mono _ _ _)
      | (with_reducible exact LeO.refl _)
      | (with_reducible exact LeO.none _)
      | (with_reducible refine LeO.ite ?_ ?_)
      | (with_reducible refine LeO.bind ?_ (fun _ => ?_))
      | exact ih0 _ _ _
      | exact ih1 _ _ _ _
      | exact ih2 _ _ _
      | exact date_long.mono _ _ _
      | exact date_pad.mono _ _ _
      | exact LeO.none _
      | refine LeO.ite ?_ ?_
      | refine LeO.bind ?_ (fun _ => ?_)
set_option maxHeartbeats 8000000 in
set_option maxRecDepth 100000 in
theorem date_Print.calls (k : Nat) (a0 : Int) (r1 : ByteArray) (r2 : ByteArray) (r3 : Bool) (w : World) (hTab : XT.Tabs w) (h : date_Print.f k a0 = some (r1, r2, r3)) :
    Calls Tryd.prog 17 #[.int .u64 a0] w fun e w' => e = .returned (.tuple #[.string r1, .string r2, .bool r3]) ∧ Below w.heap.size w w' := by
  have HB := Aside0.mk (Below.refl w.heap.size w)
  have H : (if a0 > 253402300799 then (some ((⟨#[]⟩ : ByteArray), (⟨#[]⟩ : ByteArray), false)) else (date_Print.l0 k (wrap64 (IntKind.u64.wrap (Int.tdiv a0 86400))) (wrap64 (Int.tmod a0 86400)) 1970)) = some (r1, r2, r3) := h
  clear h
  by_cases c2 : a0 > 253402300799
  · rw [if_pos c2] at H
    have c2b0 : decide (253402300799 < a0) = true := decide_eq_true c2
    clear c2
    simp only [Option.some.injEq, Prod.mk.injEq] at H
    obtain ⟨rfl, rfl, rfl⟩ := H
    go_enter Tryd.func17, Tryd.ntmps17
    go_wp2
    go_ret3
    exact ⟨by first | rfl | (simp [errW_none, errW_some] <;> rfl) | (simp [*, errW_none, errW_some] <;> rfl), by repeat (first | (with_reducible first | exact HB.out | apply below_alloc | apply pw_below_drewN | apply below_drew1) | exact HB.out)⟩
  · rw [if_neg c2] at H
    have c2b0 : decide (253402300799 < a0) = false := decide_eq_false c2
    clear c2
    have HC3 := Aside0.mk H
    clear H
    go_enter Tryd.func17, Tryd.ntmps17
    go_upto_block 0 with (fail)
    go_cut [5, 7] (fun v5 v7 wc => ∃ (kq : Nat) (x5_2 : Int) (x7_2 : Int), v5 = .int .i64 x5_2 ∧ v7 = .int .i64 x7_2 ∧ Aside0 (date_Print.j1 kq x5_2 (wrap64 (Int.tmod a0 86400)) x7_2 = some (r1, r2, r3)) ∧ Aside0 (kq ≤ k) ∧ Aside0 (Below w.heap.size w wc))
    case first =>
      have H := HC3.out
      clear HC3
      have H' := Aside0.mk H
      clear H
      go_wp2
      go_loopg [5, 7] k (fun kq v5 v7 w' => ∃ (x5_1 : Int) (x7_1 : Int), v5 = .int .i64 x5_1 ∧ v7 = .int .i64 x7_1 ∧ Aside0 (date_Print.l0 kq x5_1 (wrap64 (Int.tmod a0 86400)) x7_1 = some (r1, r2, r3)) ∧ Aside0 (kq ≤ k) ∧ Aside0 (Below w.heap.size w w'))
      case atStart => exact ⟨(wrap64 (IntKind.u64.wrap (Int.tdiv a0 86400))), (1970), (by first | rfl | (simp only [i64_w]; done) | (simp; done) | (simp [*]; done)), (by first | rfl | (simp only [i64_w]; done) | (simp; done) | (simp [*]; done)), H', ⟨Nat.le_refl _⟩, ⟨by repeat (first | (with_reducible first | exact HB.out | apply below_alloc | apply pw_below_drewN | apply below_drew1) | exact HB.out)⟩⟩
      case round =>
        clear H'
        try clear c1
        try clear c2
        try clear c2b0
        try clear p2
        obtain ⟨x5_1, x7_1, rfl, rfl, HA, HK1, HB⟩ := hrel
        cases gk with
        | zero => exact absurd HA.out (by simp [date_Print.l0])
        | succ k1 =>
          have H := HA.out
          clear HA
          simp only [date_Print.l0] at H
          replace H := Option.bind_eq_some_iff.mp H
          obtain ⟨t125, A40, H⟩ := H
          replace H : (if t125 = true then (if x5_1 < 366 then (date_Print.j1 k1 x5_1 (wrap64 (Int.tmod a0 86400)) x7_1) else (date_Print.l0 k1 (wrap64 (x5_1 - 366)) (wrap64 (Int.tmod a0 86400)) (wrap64 (x7_1 + 1)))) else (if x5_1 < 365 then (date_Print.j1 k1 x5_1 (wrap64 (Int.tmod a0 86400)) x7_1) else (date_Print.l0 k1 (wrap64 (x5_1 - 365)) (wrap64 (Int.tmod a0 86400)) (wrap64 (x7_1 + 1))))) = some (r1, r2, r3) := H
          have A4 := Aside0.mk A40
          clear A40
          by_cases c5 : t125 = true
          · subst c5
            have H1 : (if x5_1 < 366 then (date_Print.j1 k1 x5_1 (wrap64 (Int.tmod a0 86400)) x7_1) else (date_Print.l0 k1 (wrap64 (x5_1 - 366)) (wrap64 (Int.tmod a0 86400)) (wrap64 (x7_1 + 1)))) = some (r1, r2, r3) := by rw [if_pos rfl] at H; exact H
            clear H
            have H := H1
            clear H1
            by_cases c6 : x5_1 < 366
            · rw [if_pos c6] at H
              have c6b0 : decide (x5_1 < 366) = true := decide_eq_true c6
              clear c6
              (first | rw [c6b0] | (simp only [i64_w, i32_w]; rw [c6b0]) | skip)
              have H' := Aside0.mk H
              clear H
              go_wp2_with (first | ((with_reducible refine gate_callee (f := 43) rfl ?_); refine goesL_ (some 19) rfl rfl Tryd.func43 (by kernel_rfl) rfl #[.int .i64 x7_1] rfl (by (try simp only [List.map_toArray, List.map_cons, List.map_nil]); first | done | rfl | (simp only [List.length_drop, List.length_take]; rfl)) ?_; (with_reducible refine (date_leap.calls x7_1 true _ A4.out).mono ?_); rintro e w' ⟨rfl, ⟨nd, rfl⟩⟩; refine ⟨_, rfl, ?_⟩))
              go_meet
              case rel => exact ⟨_, (x5_1), (x7_1), (by first | rfl | (simp only [i64_w]; done) | (simp; done) | (simp [*]; done)), (by first | rfl | (simp only [i64_w]; done) | (simp; done) | (simp [*]; done)), H', ⟨by have := HK1.out; first | omega | exact Nat.le_refl _⟩, ⟨by repeat (first | (with_reducible first | exact HB.out | apply below_alloc | apply pw_below_drewN | apply below_drew1) | exact HB.out)⟩⟩
            · rw [if_neg c6] at H
              have c6b0 : decide (x5_1 < 366) = false := decide_eq_false c6
              clear c6
              (first | rw [c6b0] | (simp only [i64_w, i32_w]; rw [c6b0]) | skip)
              have H' := Aside0.mk H
              clear H
              go_wp2_with (first | ((with_reducible refine gate_callee (f := 43) rfl ?_); refine goesL_ (some 19) rfl rfl Tryd.func43 (by kernel_rfl) rfl #[.int .i64 x7_1] rfl (by (try simp only [List.map_toArray, List.map_cons, List.map_nil]); first | done | rfl | (simp only [List.length_drop, List.length_take]; rfl)) ?_; (with_reducible refine (date_leap.calls x7_1 true _ A4.out).mono ?_); rintro e w' ⟨rfl, ⟨nd, rfl⟩⟩; refine ⟨_, rfl, ?_⟩))
              go_roundg k1
              case measure => have := HK1.out; omega
              case rel => exact ⟨(wrap64 (x5_1 - 366)), (wrap64 (x7_1 + 1)), (by first | rfl | (simp only [i64_w]; done) | (simp; done) | (simp [*]; done)), (by first | rfl | (simp only [i64_w]; done) | (simp; done) | (simp [*]; done)), H', ⟨by have := HK1.out; omega⟩, ⟨by repeat (first | (with_reducible first | exact HB.out | apply below_alloc | apply pw_below_drewN | apply below_drew1) | exact HB.out)⟩⟩
          · replace c5 := Bool.eq_false_iff.mpr c5
            subst c5
            have H1 : (if x5_1 < 365 then (date_Print.j1 k1 x5_1 (wrap64 (Int.tmod a0 86400)) x7_1) else (date_Print.l0 k1 (wrap64 (x5_1 - 365)) (wrap64 (Int.tmod a0 86400)) (wrap64 (x7_1 + 1)))) = some (r1, r2, r3) := by rw [if_neg (show ¬ (false = true) by decide)] at H; exact H
            clear H
            have H := H1
            clear H1
            by_cases c7 : x5_1 < 365
            · rw [if_pos c7] at H
              have c7b0 : decide (x5_1 < 365) = true := decide_eq_true c7
              clear c7
              have H' := Aside0.mk H
              clear H
              go_wp2_with (first | ((with_reducible refine gate_callee (f := 43) rfl ?_); refine goesL_ (some 19) rfl rfl Tryd.func43 (by kernel_rfl) rfl #[.int .i64 x7_1] rfl (by (try simp only [List.map_toArray, List.map_cons, List.map_nil]); first | done | rfl | (simp only [List.length_drop, List.length_take]; rfl)) ?_; (with_reducible refine (date_leap.calls x7_1 false _ A4.out).mono ?_); rintro e w' ⟨rfl, ⟨nd, rfl⟩⟩; refine ⟨_, rfl, ?_⟩))
              go_meet
              case rel => exact ⟨_, (x5_1), (x7_1), (by first | rfl | (simp only [i64_w]; done) | (simp; done) | (simp [*]; done)), (by first | rfl | (simp only [i64_w]; done) | (simp; done) | (simp [*]; done)), H', ⟨by have := HK1.out; first | omega | exact Nat.le_refl _⟩, ⟨by repeat (first | (with_reducible first | exact HB.out | apply below_alloc | apply pw_below_drewN | apply below_drew1) | exact HB.out)⟩⟩
            · rw [if_neg c7] at H
              have c7b0 : decide (x5_1 < 365) = false := decide_eq_false c7
              clear c7
              have H' := Aside0.mk H
              clear H
              go_wp2_with (first | ((with_reducible refine gate_callee (f := 43) rfl ?_); refine goesL_ (some 19) rfl rfl Tryd.func43 (by kernel_rfl) rfl #[.int .i64 x7_1] rfl (by (try simp only [List.map_toArray, List.map_cons, List.map_nil]); first | done | rfl | (simp only [List.length_drop, List.length_take]; rfl)) ?_; (with_reducible refine (date_leap.calls x7_1 false _ A4.out).mono ?_); rintro e w' ⟨rfl, ⟨nd, rfl⟩⟩; refine ⟨_, rfl, ?_⟩))
              go_roundg k1
              case measure => have := HK1.out; omega
              case rel => exact ⟨(wrap64 (x5_1 - 365)), (wrap64 (x7_1 + 1)), (by first | rfl | (simp only [i64_w]; done) | (simp; done) | (simp [*]; done)), (by first | rfl | (simp only [i64_w]; done) | (simp; done) | (simp [*]; done)), H', ⟨by have := HK1.out; omega⟩, ⟨by repeat (first | (with_reducible first | exact HB.out | apply below_alloc | apply pw_below_drewN | apply below_drew1) | exact HB.out)⟩⟩
    case rest =>
      clear HC3
      try clear c1
      try clear c2
      try clear c2b0
      try clear p2
      try clear c4
      try clear c5
      try clear c6
      try clear c6b0
      try clear p6
      try clear c7
      try clear c7b0
      try clear p2
      obtain ⟨kq, x5_2, x7_2, rfl, rfl, HA, HJ2, HB⟩ := hcut
      cases kq with
      | zero => exact absurd HA.out (by simp [date_Print.j1])
      | succ kj2 =>
        have H := HA.out
        clear HA
        simp only [date_Print.j1] at H
        have H' := Aside0.mk H
        clear H
        go_wp2
        go_loopg [5, 9] kj2 (fun kq v5 v9 w' => ∃ (x5_2 : Int) (x9_2 : Int), v5 = .int .i64 x5_2 ∧ v9 = .int .i64 x9_2 ∧ Aside0 (date_Print.l1 kq x5_2 (wrap64 (Int.tmod a0 86400)) x7_2 x9_2 = some (r1, r2, r3)) ∧ Aside0 (kq ≤ kj2) ∧ Aside0 (Below w.heap.size w w'))
        case atStart => exact ⟨(x5_2), (1), (by first | rfl | (simp only [i64_w]; done) | (simp; done) | (simp [*]; done)), (by first | rfl | (simp only [i64_w]; done) | (simp; done) | (simp [*]; done)), H', ⟨Nat.le_refl _⟩, ⟨by repeat (first | (with_reducible first | exact HB.out | apply below_alloc | apply pw_below_drewN | apply below_drew1) | exact HB.out)⟩⟩
        case round =>
          clear H'
          try clear c1
          try clear c2
          try clear c2b0
          try clear p2
          try clear c4
          try clear c5
          try clear c6
          try clear c6b0
          try clear p6
          try clear c7
          try clear c7b0
          try clear p2
          try clear p6
          obtain ⟨x5_2, x9_2, rfl, rfl, HA, HK2, HB⟩ := hrel
          cases gk with
          | zero => exact absurd HA.out (by simp [date_Print.l1])
          | succ k2 =>
            have H := HA.out
            clear HA
            simp only [date_Print.l1] at H
            replace H := Option.bind_eq_some_iff.mp H
            obtain ⟨t126, A80, H⟩ := H
            replace H : (if x5_2 ≥ t126 then ((date_long.f k2 x7_2 x9_2).bind fun t127 => (date_Print.l1 k2 (wrap64 (x5_2 - t127)) (wrap64 (Int.tmod a0 86400)) x7_2 (wrap64 (x9_2 + 1)))) else ((date_pad.f k2 x7_2 4).bind fun t128 => (if t128.size + 1 ≤ 9223372036854775807 then ((date_pad.f k2 x9_2 2).bind fun t129 => (if t128.size + 1 + t129.size ≤ 9223372036854775807 then (if t128.size + 1 + t129.size + 1 ≤ 9223372036854775807 then ((date_pad.f k2 (wrap64 (x5_2 + 1)) 2).bind fun t130 => (if t128.size + 1 + t129.size + 1 + t130.size ≤ 9223372036854775807 then ((date_pad.f k2 (wrap64 (Int.tdiv (wrap64 (Int.tmod a0 86400)) 3600)) 2).bind fun t131 => (if t131.size + 1 ≤ 9223372036854775807 then ((date_pad.f k2 (Int.tmod (wrap64 (Int.tdiv (wrap64 (Int.tmod a0 86400)) 60)) 60) 2).bind fun t132 => (if t131.size + 1 + t132.size ≤ 9223372036854775807 then (if t131.size + 1 + t132.size + 1 ≤ 9223372036854775807 then ((date_pad.f k2 (Int.tmod (wrap64 (Int.tmod a0 86400)) 60) 2).bind fun t133 => (if t131.size + 1 + t132.size + 1 + t133.size ≤ 9223372036854775807 then (some ((((t128 ++ (⟨#[47]⟩ : ByteArray)) ++ t129) ++ (⟨#[47]⟩ : ByteArray)) ++ t130, (((t131 ++ (⟨#[58]⟩ : ByteArray)) ++ t132) ++ (⟨#[58]⟩ : ByteArray)) ++ t133, true)) else (none))) else (none)) else (none))) else (none))) else (none))) else (none)) else (none))) else (none)))) = some (r1, r2, r3) := H
            have A8 := Aside0.mk A80
            clear A80
            by_cases c9 : x5_2 ≥ t126
            · rw [if_pos c9] at H
              have c9b0 : decide (t126 ≤ x5_2) = true := decide_eq_true c9
              clear c9
              replace H := Option.bind_eq_some_iff.mp H
              obtain ⟨t127, A100, H⟩ := H
              replace H : (date_Print.l1 k2 (wrap64 (x5_2 - t127)) (wrap64 (Int.tmod a0 86400)) x7_2 (wrap64 (x9_2 + 1))) = some (r1, r2, r3) := H
              have A10 := Aside0.mk A100
              clear A100
              have H' := Aside0.mk H
              clear H
              go_wp2_with (first | ((with_reducible refine gate_callee (f := 41) rfl ?_); refine goesL_ (some 33) rfl rfl Tryd.func41 (by kernel_rfl) rfl #[.int .i64 x7_2, .int .i64 x9_2] rfl (by (try simp only [List.map_toArray, List.map_cons, List.map_nil]); first | done | rfl | (simp only [List.length_drop, List.length_take]; rfl)) ?_; (with_reducible refine (date_long.calls k2 x7_2 x9_2 t126 _ A8.out).mono ?_); rintro e w' ⟨rfl, ⟨nd, rfl⟩⟩; refine ⟨_, rfl, ?_⟩) | ((with_reducible refine gate_callee (f := 41) rfl ?_); refine goesL_ (some 38) rfl rfl Tryd.func41 (by kernel_rfl) rfl #[.int .i64 x7_2, .int .i64 x9_2] rfl (by (try simp only [List.map_toArray, List.map_cons, List.map_nil]); first | done | rfl | (simp only [List.length_drop, List.length_take]; rfl)) ?_; (with_reducible refine (date_long.calls k2 x7_2 x9_2 t127 _ A10.out).mono ?_); rintro e w' ⟨rfl, ⟨nd, rfl⟩⟩; refine ⟨_, rfl, ?_⟩))
              go_roundg k2
              case measure => have := HJ2.out; have := HK2.out; omega
              case rel => exact ⟨(wrap64 (x5_2 - t127)), (wrap64 (x9_2 + 1)), (by first | rfl | (simp only [i64_w]; done) | (simp; done) | (simp [*]; done)), (by first | rfl | (simp only [i64_w]; done) | (simp; done) | (simp [*]; done)), H', ⟨by have := HJ2.out; have := HK2.out; omega⟩, ⟨by repeat (first | (with_reducible first | exact HB.out | apply below_alloc | apply pw_below_drewN | apply below_drew1) | exact HB.out)⟩⟩
            · rw [if_neg c9] at H
              have c9b0 : decide (t126 ≤ x5_2) = false := decide_eq_false c9
              clear c9
              replace H := Option.bind_eq_some_iff.mp H
              obtain ⟨t128, A110, H⟩ := H
              replace H : (if t128.size + 1 ≤ 9223372036854775807 then ((date_pad.f k2 x9_2 2).bind fun t129 => (if t128.size + 1 + t129.size ≤ 9223372036854775807 then (if t128.size + 1 + t129.size + 1 ≤ 9223372036854775807 then ((date_pad.f k2 (wrap64 (x5_2 + 1)) 2).bind fun t130 => (if t128.size + 1 + t129.size + 1 + t130.size ≤ 9223372036854775807 then ((date_pad.f k2 (wrap64 (Int.tdiv (wrap64 (Int.tmod a0 86400)) 3600)) 2).bind fun t131 => (if t131.size + 1 ≤ 9223372036854775807 then ((date_pad.f k2 (Int.tmod (wrap64 (Int.tdiv (wrap64 (Int.tmod a0 86400)) 60)) 60) 2).bind fun t132 => (if t131.size + 1 + t132.size ≤ 9223372036854775807 then (if t131.size + 1 + t132.size + 1 ≤ 9223372036854775807 then ((date_pad.f k2 (Int.tmod (wrap64 (Int.tmod a0 86400)) 60) 2).bind fun t133 => (if t131.size + 1 + t132.size + 1 + t133.size ≤ 9223372036854775807 then (some ((((t128 ++ (⟨#[47]⟩ : ByteArray)) ++ t129) ++ (⟨#[47]⟩ : ByteArray)) ++ t130, (((t131 ++ (⟨#[58]⟩ : ByteArray)) ++ t132) ++ (⟨#[58]⟩ : ByteArray)) ++ t133, true)) else (none))) else (none)) else (none))) else (none))) else (none))) else (none)) else (none))) else (none)) = some (r1, r2, r3) := H
              have A11 := Aside0.mk A110
              clear A110
              by_cases c12 : t128.size + 1 ≤ 9223372036854775807
              · rw [if_pos c12] at H
                have c12b0 := eq_true c12
                have c12b1 : decide (t128.size + 1 ≤ 9223372036854775807) = true := decide_eq_true c12
                try have c12b2 : (9223372036854775807 < t128.size + 1) = False := eq_false (Nat.not_lt.2 c12)
                replace H := Option.bind_eq_some_iff.mp H
                obtain ⟨t129, A130, H⟩ := H
                replace H : (if t128.size + 1 + t129.size ≤ 9223372036854775807 then (if t128.size + 1 + t129.size + 1 ≤ 9223372036854775807 then ((date_pad.f k2 (wrap64 (x5_2 + 1)) 2).bind fun t130 => (if t128.size + 1 + t129.size + 1 + t130.size ≤ 9223372036854775807 then ((date_pad.f k2 (wrap64 (Int.tdiv (wrap64 (Int.tmod a0 86400)) 3600)) 2).bind fun t131 => (if t131.size + 1 ≤ 9223372036854775807 then ((date_pad.f k2 (Int.tmod (wrap64 (Int.tdiv (wrap64 (Int.tmod a0 86400)) 60)) 60) 2).bind fun t132 => (if t131.size + 1 + t132.size ≤ 9223372036854775807 then (if t131.size + 1 + t132.size + 1 ≤ 9223372036854775807 then ((date_pad.f k2 (Int.tmod (wrap64 (Int.tmod a0 86400)) 60) 2).bind fun t133 => (if t131.size + 1 + t132.size + 1 + t133.size ≤ 9223372036854775807 then (some ((((t128 ++ (⟨#[47]⟩ : ByteArray)) ++ t129) ++ (⟨#[47]⟩ : ByteArray)) ++ t130, (((t131 ++ (⟨#[58]⟩ : ByteArray)) ++ t132) ++ (⟨#[58]⟩ : ByteArray)) ++ t133, true)) else (none))) else (none)) else (none))) else (none))) else (none))) else (none)) else (none)) = some (r1, r2, r3) := H
                have A13 := Aside0.mk A130
                clear A130
                by_cases c14 : t128.size + 1 + t129.size ≤ 9223372036854775807
                · rw [if_pos c14] at H
                  have c14b0 := eq_true c14
                  have c14b1 : decide (t128.size + 1 + t129.size ≤ 9223372036854775807) = true := decide_eq_true c14
                  try have c14b2 : (9223372036854775807 < t128.size + 1 + t129.size) = False := eq_false (Nat.not_lt.2 c14)
                  by_cases c15 : t128.size + 1 + t129.size + 1 ≤ 9223372036854775807
                  · rw [if_pos c15] at H
                    have c15b0 := eq_true c15
                    have c15b1 : decide (t128.size + 1 + t129.size + 1 ≤ 9223372036854775807) = true := decide_eq_true c15
                    try have c15b2 : (9223372036854775807 < t128.size + 1 + t129.size + 1) = False := eq_false (Nat.not_lt.2 c15)
                    replace H := Option.bind_eq_some_iff.mp H
                    obtain ⟨t130, A160, H⟩ := H
                    replace H : (if t128.size + 1 + t129.size + 1 + t130.size ≤ 9223372036854775807 then ((date_pad.f k2 (wrap64 (Int.tdiv (wrap64 (Int.tmod a0 86400)) 3600)) 2).bind fun t131 => (if t131.size + 1 ≤ 9223372036854775807 then ((date_pad.f k2 (Int.tmod (wrap64 (Int.tdiv (wrap64 (Int.tmod a0 86400)) 60)) 60) 2).bind fun t132 => (if t131.size + 1 + t132.size ≤ 9223372036854775807 then (if t131.size + 1 + t132.size + 1 ≤ 9223372036854775807 then ((date_pad.f k2 (Int.tmod (wrap64 (Int.tmod a0 86400)) 60) 2).bind fun t133 => (if t131.size + 1 + t132.size + 1 + t133.size ≤ 9223372036854775807 then (some ((((t128 ++ (⟨#[47]⟩ : ByteArray)) ++ t129) ++ (⟨#[47]⟩ : ByteArray)) ++ t130, (((t131 ++ (⟨#[58]⟩ : ByteArray)) ++ t132) ++ (⟨#[58]⟩ : ByteArray)) ++ t133, true)) else (none))) else (none)) else (none))) else (none))) else (none)) = some (r1, r2, r3) := H
                    have A16 := Aside0.mk A160
                    clear A160
                    by_cases c17 : t128.size + 1 + t129.size + 1 + t130.size ≤ 9223372036854775807
                    · rw [if_pos c17] at H
                      have c17b0 := eq_true c17
                      have c17b1 : decide (t128.size + 1 + t129.size + 1 + t130.size ≤ 9223372036854775807) = true := decide_eq_true c17
                      try have c17b2 : (9223372036854775807 < t128.size + 1 + t129.size + 1 + t130.size) = False := eq_false (Nat.not_lt.2 c17)
                      replace H := Option.bind_eq_some_iff.mp H
                      obtain ⟨t131, A180, H⟩ := H
                      replace H : (if t131.size + 1 ≤ 9223372036854775807 then ((date_pad.f k2 (Int.tmod (wrap64 (Int.tdiv (wrap64 (Int.tmod a0 86400)) 60)) 60) 2).bind fun t132 => (if t131.size + 1 + t132.size ≤ 9223372036854775807 then (if t131.size + 1 + t132.size + 1 ≤ 9223372036854775807 then ((date_pad.f k2 (Int.tmod (wrap64 (Int.tmod a0 86400)) 60) 2).bind fun t133 => (if t131.size + 1 + t132.size + 1 + t133.size ≤ 9223372036854775807 then (some ((((t128 ++ (⟨#[47]⟩ : ByteArray)) ++ t129) ++ (⟨#[47]⟩ : ByteArray)) ++ t130, (((t131 ++ (⟨#[58]⟩ : ByteArray)) ++ t132) ++ (⟨#[58]⟩ : ByteArray)) ++ t133, true)) else (none))) else (none)) else (none))) else (none)) = some (r1, r2, r3) := H
                      have A18 := Aside0.mk A180
                      clear A180
                      by_cases c19 : t131.size + 1 ≤ 9223372036854775807
                      · rw [if_pos c19] at H
                        have c19b0 := eq_true c19
                        have c19b1 : decide (t131.size + 1 ≤ 9223372036854775807) = true := decide_eq_true c19
                        try have c19b2 : (9223372036854775807 < t131.size + 1) = False := eq_false (Nat.not_lt.2 c19)
                        replace H := Option.bind_eq_some_iff.mp H
                        obtain ⟨t132, A200, H⟩ := H
                        replace H : (if t131.size + 1 + t132.size ≤ 9223372036854775807 then (if t131.size + 1 + t132.size + 1 ≤ 9223372036854775807 then ((date_pad.f k2 (Int.tmod (wrap64 (Int.tmod a0 86400)) 60) 2).bind fun t133 => (if t131.size + 1 + t132.size + 1 + t133.size ≤ 9223372036854775807 then (some ((((t128 ++ (⟨#[47]⟩ : ByteArray)) ++ t129) ++ (⟨#[47]⟩ : ByteArray)) ++ t130, (((t131 ++ (⟨#[58]⟩ : ByteArray)) ++ t132) ++ (⟨#[58]⟩ : ByteArray)) ++ t133, true)) else (none))) else (none)) else (none)) = some (r1, r2, r3) := H
                        have A20 := Aside0.mk A200
                        clear A200
                        by_cases c21 : t131.size + 1 + t132.size ≤ 9223372036854775807
                        · rw [if_pos c21] at H
                          have c21b0 := eq_true c21
                          have c21b1 : decide (t131.size + 1 + t132.size ≤ 9223372036854775807) = true := decide_eq_true c21
                          try have c21b2 : (9223372036854775807 < t131.size + 1 + t132.size) = False := eq_false (Nat.not_lt.2 c21)
                          by_cases c22 : t131.size + 1 + t132.size + 1 ≤ 9223372036854775807
                          · rw [if_pos c22] at H
                            have c22b0 := eq_true c22
                            have c22b1 : decide (t131.size + 1 + t132.size + 1 ≤ 9223372036854775807) = true := decide_eq_true c22
                            try have c22b2 : (9223372036854775807 < t131.size + 1 + t132.size + 1) = False := eq_false (Nat.not_lt.2 c22)
                            replace H := Option.bind_eq_some_iff.mp H
                            obtain ⟨t133, A230, H⟩ := H
                            replace H : (if t131.size + 1 + t132.size + 1 + t133.size ≤ 9223372036854775807 then (some ((((t128 ++ (⟨#[47]⟩ : ByteArray)) ++ t129) ++ (⟨#[47]⟩ : ByteArray)) ++ t130, (((t131 ++ (⟨#[58]⟩ : ByteArray)) ++ t132) ++ (⟨#[58]⟩ : ByteArray)) ++ t133, true)) else (none)) = some (r1, r2, r3) := H
                            have A23 := Aside0.mk A230
                            clear A230
                            by_cases c24 : t131.size + 1 + t132.size + 1 + t133.size ≤ 9223372036854775807
                            · rw [if_pos c24] at H
                              have c24b0 := eq_true c24
                              have c24b1 : decide (t131.size + 1 + t132.size + 1 + t133.size ≤ 9223372036854775807) = true := decide_eq_true c24
                              try have c24b2 : (9223372036854775807 < t131.size + 1 + t132.size + 1 + t133.size) = False := eq_false (Nat.not_lt.2 c24)
                              simp only [Option.some.injEq, Prod.mk.injEq] at H
                              obtain ⟨rfl, rfl, rfl⟩ := H
                              go_wp2_with (first | ((with_reducible refine gate_callee (f := 41) rfl ?_); refine goesL_ (some 33) rfl rfl Tryd.func41 (by kernel_rfl) rfl #[.int .i64 x7_2, .int .i64 x9_2] rfl (by (try simp only [List.map_toArray, List.map_cons, List.map_nil]); first | done | rfl | (simp only [List.length_drop, List.length_take]; rfl)) ?_; (with_reducible refine (date_long.calls k2 x7_2 x9_2 t126 _ A8.out).mono ?_); rintro e w' ⟨rfl, ⟨nd, rfl⟩⟩; refine ⟨_, rfl, ?_⟩) | ((with_reducible refine gate_callee (f := 44) rfl ?_); refine goesL_ (some 43) rfl rfl Tryd.func44 (by kernel_rfl) rfl #[.int .i64 x7_2, .int .i64 4] rfl (by (try simp only [List.map_toArray, List.map_cons, List.map_nil]); first | done | rfl | (simp only [List.length_drop, List.length_take]; rfl)) ?_; (with_reducible refine (date_pad.calls k2 x7_2 4 t128 _ ?side1 A11.out).mono ?_); (case side1 => exact XT.Tabs.below hTab (by repeat (first | (with_reducible first | exact HB.out | apply below_alloc | apply pw_below_drewN | apply below_drew1) | exact HB.out))); rintro e w25 ⟨rfl, hb⟩; refine ⟨_, rfl, ?_⟩; have n0_ := Aside0.mk (below_step (by repeat (first | (with_reducible first | exact HB.out | apply below_alloc | apply pw_below_drewN | apply below_drew1) | exact HB.out)) hb); clear HB; have HB := n0_; clear n0_; (try clear hb); (try clear hb2); (try clear hk); (try clear hi)) | ((with_reducible refine gate_callee (f := 44) rfl ?_); refine goesL_ (some 46) rfl rfl Tryd.func44 (by kernel_rfl) rfl #[.int .i64 x9_2, .int .i64 2] rfl (by (try simp only [List.map_toArray, List.map_cons, List.map_nil]); first | done | rfl | (simp only [List.length_drop, List.length_take]; rfl)) ?_; (with_reducible refine (date_pad.calls k2 x9_2 2 t129 _ ?side1 A13.out).mono ?_); (case side1 => exact XT.Tabs.below hTab (by repeat (first | (with_reducible first | exact HB.out | apply below_alloc | apply pw_below_drewN | apply below_drew1) | exact HB.out))); rintro e w26 ⟨rfl, hb⟩; refine ⟨_, rfl, ?_⟩; have n0_ := Aside0.mk (below_step (by repeat (first | (with_reducible first | exact HB.out | apply below_alloc | apply pw_below_drewN | apply below_drew1) | exact HB.out)) hb); clear HB; have HB := n0_; clear n0_; (try clear hb); (try clear hb2); (try clear hk); (try clear hi)) | ((with_reducible refine gate_callee (f := 44) rfl ?_); refine goesL_ (some 51) rfl rfl Tryd.func44 (by kernel_rfl) rfl #[.int .i64 (wrap64 (x5_2 + 1)), .int .i64 2] rfl (by (try simp only [List.map_toArray, List.map_cons, List.map_nil]); first | done | rfl | (simp only [List.length_drop, List.length_take]; rfl)) ?_; (with_reducible refine (date_pad.calls k2 (wrap64 (x5_2 + 1)) 2 t130 _ ?side1 A16.out).mono ?_); (case side1 => exact XT.Tabs.below hTab (by repeat (first | (with_reducible first | exact HB.out | apply below_alloc | apply pw_below_drewN | apply below_drew1) | exact HB.out))); rintro e w27 ⟨rfl, hb⟩; refine ⟨_, rfl, ?_⟩; have n0_ := Aside0.mk (below_step (by repeat (first | (with_reducible first | exact HB.out | apply below_alloc | apply pw_below_drewN | apply below_drew1) | exact HB.out)) hb); clear HB; have HB := n0_; clear n0_; (try clear hb); (try clear hb2); (try clear hk); (try clear hi)) | ((with_reducible refine gate_callee (f := 44) rfl ?_); refine goesL_ (some 55) rfl rfl Tryd.func44 (by kernel_rfl) rfl #[.int .i64 (wrap64 (Int.tdiv (wrap64 (Int.tmod a0 86400)) 3600)), .int .i64 2] rfl (by (try simp only [List.map_toArray, List.map_cons, List.map_nil]); first | done | rfl | (simp only [List.length_drop, List.length_take]; rfl)) ?_; (with_reducible refine (date_pad.calls k2 (wrap64 (Int.tdiv (wrap64 (Int.tmod a0 86400)) 3600)) 2 t131 _ ?side1 A18.out).mono ?_); (case side1 => exact XT.Tabs.below hTab (by repeat (first | (with_reducible first | exact HB.out | apply below_alloc | apply pw_below_drewN | apply below_drew1) | exact HB.out))); rintro e w28 ⟨rfl, hb⟩; refine ⟨_, rfl, ?_⟩; have n0_ := Aside0.mk (below_step (by repeat (first | (with_reducible first | exact HB.out | apply below_alloc | apply pw_below_drewN | apply below_drew1) | exact HB.out)) hb); clear HB; have HB := n0_; clear n0_; (try clear hb); (try clear hb2); (try clear hk); (try clear hi)) | ((with_reducible refine gate_callee (f := 44) rfl ?_); refine goesL_ (some 60) rfl rfl Tryd.func44 (by kernel_rfl) rfl #[.int .i64 (Int.tmod (wrap64 (Int.tdiv (wrap64 (Int.tmod a0 86400)) 60)) 60), .int .i64 2] rfl (by (try simp only [List.map_toArray, List.map_cons, List.map_nil]); first | done | rfl | (simp only [List.length_drop, List.length_take]; rfl)) ?_; (with_reducible refine (date_pad.calls k2 (Int.tmod (wrap64 (Int.tdiv (wrap64 (Int.tmod a0 86400)) 60)) 60) 2 t132 _ ?side1 A20.out).mono ?_); (case side1 => exact XT.Tabs.below hTab (by repeat (first | (with_reducible first | exact HB.out | apply below_alloc | apply pw_below_drewN | apply below_drew1) | exact HB.out))); rintro e w29 ⟨rfl, hb⟩; refine ⟨_, rfl, ?_⟩; have n0_ := Aside0.mk (below_step (by repeat (first | (with_reducible first | exact HB.out | apply below_alloc | apply pw_below_drewN | apply below_drew1) | exact HB.out)) hb); clear HB; have HB := n0_; clear n0_; (try clear hb); (try clear hb2); (try clear hk); (try clear hi)) | ((with_reducible refine gate_callee (f := 44) rfl ?_); refine goesL_ (some 65) rfl rfl Tryd.func44 (by kernel_rfl) rfl #[.int .i64 (Int.tmod (wrap64 (Int.tmod a0 86400)) 60), .int .i64 2] rfl (by (try simp only [List.map_toArray, List.map_cons, List.map_nil]); first | done | rfl | (simp only [List.length_drop, List.length_take]; rfl)) ?_; (with_reducible refine (date_pad.calls k2 (Int.tmod (wrap64 (Int.tmod a0 86400)) 60) 2 t133 _ ?side1 A23.out).mono ?_); (case side1 => exact XT.Tabs.below hTab (by repeat (first | (with_reducible first | exact HB.out | apply below_alloc | apply pw_below_drewN | apply below_drew1) | exact HB.out))); rintro e w30 ⟨rfl, hb⟩; refine ⟨_, rfl, ?_⟩; have n0_ := Aside0.mk (below_step (by repeat (first | (with_reducible first | exact HB.out | apply below_alloc | apply pw_below_drewN | apply below_drew1) | exact HB.out)) hb); clear HB; have HB := n0_; clear n0_; (try clear hb); (try clear hb2); (try clear hk); (try clear hi)))
                              go_ret3
                              exact ⟨by first | rfl | (simp [errW_none, errW_some] <;> rfl) | (simp [*, errW_none, errW_some] <;> rfl), by repeat (first | (with_reducible first | exact HB.out | apply below_alloc | apply pw_below_drewN | apply below_drew1) | exact HB.out)⟩
                            · rw [if_neg c24] at H
                              exact absurd H (by simp)
                          · rw [if_neg c22] at H
                            exact absurd H (by simp)
                        · rw [if_neg c21] at H
                          exact absurd H (by simp)
                      · rw [if_neg c19] at H
                        exact absurd H (by simp)
                    · rw [if_neg c17] at H
                      exact absurd H (by simp)
                  · rw [if_neg c15] at H
                    exact absurd H (by simp)
                · rw [if_neg c14] at H
                  exact absurd H (by simp)
              · rw [if_neg c12] at H
                exact absurd H (by simp)

/-! ### date_Week: function 18 -/
def date_Week.f (a0 : Int) : Option (Int) := some (wrap64 (Int.tmod (IntKind.u64.wrap ((IntKind.u64.wrap (Int.tdiv a0 86400)) + 4)) 7))
set_option maxHeartbeats 8000000 in
set_option maxRecDepth 100000 in
theorem date_Week.calls (a0 : Int) (r : Int) (w : World) (h : date_Week.f a0 = some r) :
    Calls Tryd.prog 18 #[.int .u64 a0] w fun e w' => e = .returned (.int .i64 r) ∧ Drawn0 w w' := by
  have H : (some (wrap64 (Int.tmod (IntKind.u64.wrap ((IntKind.u64.wrap (Int.tdiv a0 86400)) + 4)) 7))) = some r := h
  clear h
  obtain rfl := Option.some.inj H
  go_enter Tryd.func18, Tryd.ntmps18
  go_wp2
  go_ret
  exact ⟨by first | rfl | (simp only [i64_w]; done) | (simp; done) | (simp [*]; done), by repeat (first | exact Drawn0.refl _ | apply Drawn0.step)⟩

/-! ### strconv_FormatUint_68: function 68 (a contract of ours) -/
def strconv_FormatUint_68.f (a0 a1 : Int) : Option ByteArray := if a1 = 10 then (if 0 ≤ a0 then (if a0 < 18446744073709551616 then some ⟨(Lib.decDigits a0.toNat).toArray⟩ else none) else none) else none
theorem strconv_FormatUint_68.calls (a0 a1 : Int) (r : ByteArray) (w : World) (hTab : XT.Tabs w) (h : strconv_FormatUint_68.f a0 a1 = some r) :
    Calls Tryd.prog 68 #[.int .u64 a0, .int .i64 a1] w fun e w' => e = .returned (.string r) ∧ Below w.heap.size w w' := by
  unfold strconv_FormatUint_68.f at h
  by_cases h0 : a1 = 10
  · rw [if_pos h0] at h
    subst h0
    by_cases h1 : 0 ≤ a0
    · rw [if_pos h1] at h
      by_cases h2 : a0 < 18446744073709551616
      · rw [if_pos h2] at h
        injection h with h
        subst h
        obtain ⟨u, rfl⟩ : ∃ u : Nat, a0 = (u : Int) := ⟨a0.toNat, by omega⟩
        exact XT.formatUint u (by omega) w hTab
      · rw [if_neg h2] at h
        cases h
    · rw [if_neg h1] at h
      cases h
  · rw [if_neg h0] at h
    cases h

/-! ### strconv_FormatUint_45: function 45 -/
def strconv_FormatUint_45.f (a0 : Int) (a1 : Int) : Option (ByteArray) := (strconv_FormatUint_68.f a0 a1).bind fun t134 => (some t134)
set_option maxHeartbeats 8000000 in
set_option maxRecDepth 100000 in
theorem strconv_FormatUint_45.calls (a0 : Int) (a1 : Int) (r : ByteArray) (w : World) (hTab : XT.Tabs w) (h : strconv_FormatUint_45.f a0 a1 = some r) :
    Calls Tryd.prog 45 #[.int .u64 a0, .int .i64 a1] w fun e w' => e = .returned (.string r) ∧ Below w.heap.size w w' := by
  have HB := Aside0.mk (Below.refl w.heap.size w)
  have H : ((strconv_FormatUint_68.f a0 a1).bind fun t134 => (some t134)) = some r := h
  clear h
  replace H := Option.bind_eq_some_iff.mp H
  obtain ⟨t134, A30, H⟩ := H
  replace H : (some t134) = some r := H
  have A3 := Aside0.mk A30
  clear A30
  obtain rfl := Option.some.inj H
  go_enter Tryd.func45, Tryd.ntmps45
  go_wp2_with (first | ((with_reducible refine gate_callee (f := 68) rfl ?_); refine goesL_ (some 7) rfl rfl Tryd.func68 (by kernel_rfl) rfl #[.int .u64 a0, .int .i64 a1] rfl (by (try simp only [List.map_toArray, List.map_cons, List.map_nil]); first | done | rfl | (simp only [List.length_drop, List.length_take]; rfl)) ?_; (with_reducible refine (strconv_FormatUint_68.calls a0 a1 t134 _ ?side1 A3.out).mono ?_); (case side1 => exact XT.Tabs.below hTab (by repeat (first | (with_reducible first | exact HB.out | apply below_alloc | apply pw_below_drewN | apply below_drew1) | exact HB.out))); rintro e w4 ⟨rfl, hb⟩; refine ⟨_, rfl, ?_⟩; have n0_ := Aside0.mk (below_step (by repeat (first | (with_reducible first | exact HB.out | apply below_alloc | apply pw_below_drewN | apply below_drew1) | exact HB.out)) hb); clear HB; have HB := n0_; clear n0_; (try clear hb); (try clear hb2); (try clear hk); (try clear hi)))
  go_ret
  exact ⟨by first | rfl | (simp [errW_none, errW_some] <;> rfl) | (simp [*, errW_none, errW_some] <;> rfl), by repeat (first | (with_reducible first | exact HB.out | apply below_alloc | apply pw_below_drewN | apply below_drew1) | exact HB.out)⟩

/-! ### date_Text: function 19 -/
def date_Text.f (a0 : Int) : Option (ByteArray) := (strconv_FormatUint_45.f a0 10).bind fun t135 => (some t135)
set_option maxHeartbeats 8000000 in
set_option maxRecDepth 100000 in
theorem date_Text.calls (a0 : Int) (r : ByteArray) (w : World) (hTab : XT.Tabs w) (h : date_Text.f a0 = some r) :
    Calls Tryd.prog 19 #[.int .u64 a0] w fun e w' => e = .returned (.string r) ∧ Below w.heap.size w w' := by
  have HB := Aside0.mk (Below.refl w.heap.size w)
  have H : ((strconv_FormatUint_45.f a0 10).bind fun t135 => (some t135)) = some r := h
  clear h
  replace H := Option.bind_eq_some_iff.mp H
  obtain ⟨t135, A20, H⟩ := H
  replace H : (some t135) = some r := H
  have A2 := Aside0.mk A20
  clear A20
  obtain rfl := Option.some.inj H
  go_enter Tryd.func19, Tryd.ntmps19
  go_wp2_with (first | ((with_reducible refine gate_callee (f := 45) rfl ?_); refine goesL_ (some 4) rfl rfl Tryd.func45 (by kernel_rfl) rfl #[.int .u64 a0, .int .i64 10] rfl (by (try simp only [List.map_toArray, List.map_cons, List.map_nil]); first | done | rfl | (simp only [List.length_drop, List.length_take]; rfl)) ?_; (with_reducible refine (strconv_FormatUint_45.calls a0 10 t135 _ ?side1 A2.out).mono ?_); (case side1 => exact XT.Tabs.below hTab (by repeat (first | (with_reducible first | exact HB.out | apply below_alloc | apply pw_below_drewN | apply below_drew1) | exact HB.out))); rintro e w3 ⟨rfl, hb⟩; refine ⟨_, rfl, ?_⟩; have n0_ := Aside0.mk (below_step (by repeat (first | (with_reducible first | exact HB.out | apply below_alloc | apply pw_below_drewN | apply below_drew1) | exact HB.out)) hb); clear HB; have HB := n0_; clear n0_; (try clear hb); (try clear hb2); (try clear hk); (try clear hi)))
  go_ret
  exact ⟨by first | rfl | (simp [errW_none, errW_some] <;> rfl) | (simp [*, errW_none, errW_some] <;> rfl), by repeat (first | (with_reducible first | exact HB.out | apply below_alloc | apply pw_below_drewN | apply below_drew1) | exact HB.out)⟩

end Go.Proofs.YtcgchblljhbdaaaDoor.Z
