-- Printed by this session's own program (wip/xprint) out of the translation. Lean checks it.
import Derived.Test.YtcgchblljhbdaaaDoorCx0
import Derived.Test.YtcgchblljhbdaaaDoorCx1
import Derived.Test.YtcgchblljhbdaaaDoorCx5
import Derived.Test.YtcgchblljhbdaaaDoorCx6
namespace Go.Proofs.YtcgchblljhbdaaaDoor.C
open Go.Proofs.YtcgchblljhbdaaaDoor
open Go.RowKit Go.Proofs.YtcgchblljhbdaaaDoorW.PrintWords Go.Proofs.YtcgchblljhbdaaaDoorW.PrintLast Go.Proofs.YtcgchblljhbdaaaDoorW.PrintMore
attribute [local go_sem] max2_int min2_int max_two min_two max_three min_three max_four min_four   -- for this text's walks alone
set_option linter.unusedVariables false
set_option linter.unusedSimpArgs false

attribute [local go_sem high] eqA54
/-! ### glebelaw9_CsvrLong: function 11 -/
mutual
def glebelaw9_CsvrLong.l0 : Nat → Int → Bool → ByteArray → Int → Option (Bool)
  | 0, _, _, _, _ => none
  | k + 1, x0, x1, x5, x6 => if x6 < x0 then (if x5.size + 1 ≤ 9223372036854775807 then (glebelaw9_CsvrLong.l0 k x0 x1 (x5 ++ (⟨#[97]⟩ : ByteArray)) (wrap64 (x6 + 1))) else (none)) else (if x1 = true then (if 1 + x5.size ≤ 9223372036854775807 then (if 1 + x5.size + 1 ≤ 9223372036854775807 then (glebelaw9_CsvrLong.j1 k x0 (((⟨#[34]⟩ : ByteArray) ++ x5) ++ (⟨#[34]⟩ : ByteArray))) else (none)) else (none)) else (glebelaw9_CsvrLong.j1 k x0 x5))
def glebelaw9_CsvrLong.j1 : Nat → Int → ByteArray → Option (Bool)
  | 0, _, _ => none
  | k + 1, x0, x5 => if 2 + x5.size ≤ 9223372036854775807 then (if 2 + x5.size + 1 ≤ 9223372036854775807 then ((csvr_Parse.f k (bytesOf (((⟨#[120, 44]⟩ : ByteArray) ++ x5) ++ (⟨#[10]⟩ : ByteArray)))).bind fun bt272 => (if x0 > 255 then (if (bt272.2.1 == 2 && (bt272.2.2 == 2)) = true then (if (bt272.1.length : Int) = 0 then ((glebelaw9_awake.f k).bind fun t278 => (some t278)) else (none)) else (none)) else (if (bt272.2.1 == 0 && (bt272.2.2 == 0)) = true then (if (bt272.1.length : Int) = 1 then (if 0 < (bt272.1.length : Int) then (if ((rd_L4 bt272.1 0).length : Int) = 2 then (if 1 < ((rd_L4 bt272.1 0).length : Int) then (if (((rd_T59 (rd_L4 bt272.1 0) 1).f1).size : Int) = x0 then ((glebelaw9_awake.f k).bind fun t282 => (some t282)) else (none)) else (none)) else (none)) else (none)) else (none)) else (none)))) else (none)) else (none)
end
def glebelaw9_CsvrLong.f (k : Nat) (a0 : Int) (a1 : Bool) : Option (Bool) := glebelaw9_CsvrLong.l0 k (Go.bits .and .i64 a0 511) a1 (⟨#[]⟩ : ByteArray) 0
theorem glebelaw9_CsvrLong.mono_l : ∀ k, (∀ y0 y1 y2 y3, LeO (glebelaw9_CsvrLong.l0 k y0 y1 y2 y3) (glebelaw9_CsvrLong.l0 (k + 1) y0 y1 y2 y3)) ∧ (∀ y0 y1, LeO (glebelaw9_CsvrLong.j1 k y0 y1) (glebelaw9_CsvrLong.j1 (k + 1) y0 y1))
  | 0 => ⟨fun _ _ _ _ r h => by simp [glebelaw9_CsvrLong.l0] at h, fun _ _ r h => by simp [glebelaw9_CsvrLong.j1] at h⟩
  | k + 1 => by
    obtain ⟨ih0, ih1⟩ := glebelaw9_CsvrLong.mono_l k
    refine ⟨?_, ?_⟩
    · intro y0 y1 y2 y3
      unfold glebelaw9_CsvrLong.l0
      repeat' first
      | (with_reducible exact ih0 _ _ _ _)
      | (with_reducible exact ih1 _ _)
      | (with_reducible exact csvr_Parse.mono _ _)
      | (with_reducible exact glebelaw9_awake.mono _)
      | (with_reducible exact LeO.refl _)
      | (with_reducible exact LeO.none _)
      | (with_reducible refine LeO.ite ?_ ?_)
      | (with_reducible refine LeO.bind ?_ (fun _ => ?_))
      | exact ih0 _ _ _ _
      | exact ih1 _ _
      | exact csvr_Parse.mono _ _
      | exact glebelaw9_awake.mono _
      | exact LeO.none _
      | refine LeO.ite ?_ ?_
      | refine LeO.bind ?_ (fun _ => ?_)
    · intro y0 y1
      unfold glebelaw9_CsvrLong.j1
      repeat' first
      | (with_reducible exact ih0 _ _ _ _)
      | (with_reducible exact ih1 _ _)
      | (with_reducible exact csvr_Parse.mono _ _)
      | (with_reducible exact glebelaw9_awake.mono _)
      | (with_reducible exact LeO.refl _)
      | (with_reducible exact LeO.none _)
      | (with_reducible refine LeO.ite ?_ ?_)
      | (with_reducible refine LeO.bind ?_ (fun _ => ?_))
      | exact ih0 _ _ _ _
      | exact ih1 _ _
      | exact csvr_Parse.mono _ _
      | exact glebelaw9_awake.mono _
      | exact LeO.none _
      | refine LeO.ite ?_ ?_
      | refine LeO.bind ?_ (fun _ => ?_)
theorem glebelaw9_CsvrLong.mono : ∀ a0 a1 k, LeO (glebelaw9_CsvrLong.f k a0 a1) (glebelaw9_CsvrLong.f (k + 1) a0 a1) := by
  intro a0 a1 k
  obtain ⟨ih0, ih1⟩ := glebelaw9_CsvrLong.mono_l k
  unfold glebelaw9_CsvrLong.f
  repeat' first
      | (with_reducible exact ih0 _ _ _ _)
      | (with_reducible exact ih1 _ _)
      | (with_reducible exact csvr_Parse.mono _ _)
      | (with_reducible exact glebelaw9_awake.mono _)
      | (with_reducible exact LeO.refl _)
      | (with_reducible exact LeO.none _)
      | (with_reducible refine LeO.ite ?_ ?_)
      | (with_reducible refine LeO.bind ?_ (fun _ => ?_))
      | exact ih0 _ _ _ _
      | exact ih1 _ _
      | exact csvr_Parse.mono _ _
      | exact glebelaw9_awake.mono _
      | exact LeO.none _
      | refine LeO.ite ?_ ?_
      | refine LeO.bind ?_ (fun _ => ?_)
set_option maxHeartbeats 8000000 in
set_option maxRecDepth 100000 in
theorem glebelaw9_CsvrLong.calls (k : Nat) (a0 : Int) (a1 : Bool) (r : Bool) (w : World) (hMax : XM.Tabs w) (h : glebelaw9_CsvrLong.f k a0 a1 = some r) :
    Calls Tryd.prog 11 #[.int .i64 a0, .bool a1] w fun e w' => e = .returned (.bool r) ∧ Below w.heap.size w w' := by
  have hu54 := Tryd.underlying54
  have HB := Aside0.mk (Below.refl w.heap.size w)
  have H : (glebelaw9_CsvrLong.l0 k (Go.bits .and .i64 a0 511) a1 (⟨#[]⟩ : ByteArray) 0) = some r := h
  clear h
  have H' := Aside0.mk H
  clear H
  go_enter Tryd.func11, Tryd.ntmps11
  go_wp2
  go_loopg [5, 6] k (fun kq v5 v6 w' => ∃ (x5_1 : ByteArray) (x6_1 : Int), v5 = .string x5_1 ∧ v6 = .int .i64 x6_1 ∧ Aside0 (glebelaw9_CsvrLong.l0 kq (Go.bits .and .i64 a0 511) a1 x5_1 x6_1 = some r) ∧ Aside0 (kq ≤ k) ∧ Aside0 (Below w.heap.size w w'))
  case atStart => exact ⟨((⟨#[]⟩ : ByteArray)), (0), (by first | rfl | (simp only [i64_w]; done) | (simp; done) | (simp [*]; done)), (by first | rfl | (simp only [i64_w]; done) | (simp; done) | (simp [*]; done)), H', ⟨Nat.le_refl _⟩, ⟨by repeat (first | (with_reducible first | exact HB.out | apply below_alloc | apply pw_below_drewN | apply below_drew1) | exact HB.out)⟩⟩
  case round =>
    clear H'
    try clear c1
    try clear p2
    obtain ⟨x5_1, x6_1, rfl, rfl, HA, HK1, HB⟩ := hrel
    cases gk with
    | zero => exact absurd HA.out (by simp [glebelaw9_CsvrLong.l0])
    | succ k1 =>
      have H := HA.out
      clear HA
      simp only [glebelaw9_CsvrLong.l0] at H
      by_cases c3 : x6_1 < (Go.bits .and .i64 a0 511)
      · rw [if_pos c3] at H
        have c3b0 : decide (x6_1 < (Go.bits .and .i64 a0 511)) = true := decide_eq_true c3
        clear c3
        by_cases c4 : x5_1.size + 1 ≤ 9223372036854775807
        · rw [if_pos c4] at H
          have c4b0 := eq_true c4
          have c4b1 : decide (x5_1.size + 1 ≤ 9223372036854775807) = true := decide_eq_true c4
          try have c4b2 : (9223372036854775807 < x5_1.size + 1) = False := eq_false (Nat.not_lt.2 c4)
          have H' := Aside0.mk H
          clear H
          go_wp2
          go_roundg k1
          case measure => have := HK1.out; omega
          case rel => exact ⟨(x5_1 ++ (⟨#[97]⟩ : ByteArray)), (wrap64 (x6_1 + 1)), (by first | rfl | (simp only [i64_w]; done) | (simp; done) | (simp [*]; done)), (by first | rfl | (simp only [i64_w]; done) | (simp; done) | (simp [*]; done)), H', ⟨by have := HK1.out; omega⟩, ⟨by repeat (first | (with_reducible first | exact HB.out | apply below_alloc | apply pw_below_drewN | apply below_drew1) | exact HB.out)⟩⟩
        · rw [if_neg c4] at H
          exact absurd H (by simp)
      · rw [if_neg c3] at H
        have c3b0 : decide (x6_1 < (Go.bits .and .i64 a0 511)) = false := decide_eq_false c3
        clear c3
        have HC5 := Aside0.mk H
        clear H
        go_upto_if 18 with (fail)
        go_cut [5] (fun v5 wc => ∃ (kq : Nat) (x5_4 : ByteArray), v5 = .string x5_4 ∧ Aside0 (glebelaw9_CsvrLong.j1 kq (Go.bits .and .i64 a0 511) x5_4 = some r) ∧ Aside0 (kq ≤ k1) ∧ Aside0 (Below w.heap.size w wc))
        case first =>
          have H := HC5.out
          clear HC5
          by_cases c6 : a1 = true
          · subst c6
            have H1 : (if 1 + x5_1.size ≤ 9223372036854775807 then (if 1 + x5_1.size + 1 ≤ 9223372036854775807 then (glebelaw9_CsvrLong.j1 k1 (Go.bits .and .i64 a0 511) (((⟨#[34]⟩ : ByteArray) ++ x5_1) ++ (⟨#[34]⟩ : ByteArray))) else (none)) else (none)) = some r := by rw [if_pos rfl] at H; exact H
            clear H
            have H := H1
            clear H1
            by_cases c7 : 1 + x5_1.size ≤ 9223372036854775807
            · rw [if_pos c7] at H
              have c7b0 := eq_true c7
              have c7b1 : decide (1 + x5_1.size ≤ 9223372036854775807) = true := decide_eq_true c7
              try have c7b2 : (9223372036854775807 < 1 + x5_1.size) = False := eq_false (Nat.not_lt.2 c7)
              by_cases c8 : 1 + x5_1.size + 1 ≤ 9223372036854775807
              · rw [if_pos c8] at H
                have c8b0 := eq_true c8
                have c8b1 : decide (1 + x5_1.size + 1 ≤ 9223372036854775807) = true := decide_eq_true c8
                try have c8b2 : (9223372036854775807 < 1 + x5_1.size + 1) = False := eq_false (Nat.not_lt.2 c8)
                have H' := Aside0.mk H
                clear H
                go_wp2
                go_meet
                case rel => exact ⟨_, (((⟨#[34]⟩ : ByteArray) ++ x5_1) ++ (⟨#[34]⟩ : ByteArray)), (by first | rfl | (simp only [i64_w]; done) | (simp; done) | (simp [*]; done)), H', ⟨by have := HK1.out; first | omega | exact Nat.le_refl _⟩, ⟨by repeat (first | (with_reducible first | exact HB.out | apply below_alloc | apply pw_below_drewN | apply below_drew1) | exact HB.out)⟩⟩
              · rw [if_neg c8] at H
                exact absurd H (by simp)
            · rw [if_neg c7] at H
              exact absurd H (by simp)
          · replace c6 := Bool.eq_false_iff.mpr c6
            subst c6
            have H1 : (glebelaw9_CsvrLong.j1 k1 (Go.bits .and .i64 a0 511) x5_1) = some r := by rw [if_neg (show ¬ (false = true) by decide)] at H; exact H
            clear H
            have H := H1
            clear H1
            have H' := Aside0.mk H
            clear H
            go_wp2
            go_meet
            case rel => exact ⟨_, (x5_1), (by first | rfl | (simp only [i64_w]; done) | (simp; done) | (simp [*]; done)), H', ⟨by have := HK1.out; first | omega | exact Nat.le_refl _⟩, ⟨by repeat (first | (with_reducible first | exact HB.out | apply below_alloc | apply pw_below_drewN | apply below_drew1) | exact HB.out)⟩⟩
        case rest =>
          clear HC5
          try clear c1
          try clear p2
          try clear c3
          try clear c3b0
          try clear c4
          try clear c4b0
          try clear c4b1
          try clear c4b2
          try clear c6
          try clear p6
          try clear c7
          try clear c7b0
          try clear c7b1
          try clear c7b2
          try clear c8
          try clear c8b0
          try clear c8b1
          try clear c8b2
          try clear p2
          obtain ⟨kq, x5_4, rfl, HA, HJ4, HB⟩ := hcut
          cases kq with
          | zero => exact absurd HA.out (by simp [glebelaw9_CsvrLong.j1])
          | succ kj4 =>
            have H := HA.out
            clear HA
            simp only [glebelaw9_CsvrLong.j1] at H
            by_cases c9 : 2 + x5_4.size ≤ 9223372036854775807
            · rw [if_pos c9] at H
              have c9b0 := eq_true c9
              have c9b1 : decide (2 + x5_4.size ≤ 9223372036854775807) = true := decide_eq_true c9
              try have c9b2 : (9223372036854775807 < 2 + x5_4.size) = False := eq_false (Nat.not_lt.2 c9)
              by_cases c10 : 2 + x5_4.size + 1 ≤ 9223372036854775807
              · rw [if_pos c10] at H
                have c10b0 := eq_true c10
                have c10b1 : decide (2 + x5_4.size + 1 ≤ 9223372036854775807) = true := decide_eq_true c10
                try have c10b2 : (9223372036854775807 < 2 + x5_4.size + 1) = False := eq_false (Nat.not_lt.2 c10)
                obtain ⟨y269, hy269⟩ : ∃ y_ : List Int, y_ = (bytesOf (((⟨#[120, 44]⟩ : ByteArray) ++ x5_4) ++ (⟨#[10]⟩ : ByteArray))) := ⟨_, rfl⟩
                replace H : ((csvr_Parse.f kj4 y269).bind fun bt272 => (if (Go.bits .and .i64 a0 511) > 255 then (if (bt272.2.1 == 2 && (bt272.2.2 == 2)) = true then (if (bt272.1.length : Int) = 0 then ((glebelaw9_awake.f kj4).bind fun t278 => (some t278)) else (none)) else (none)) else (if (bt272.2.1 == 0 && (bt272.2.2 == 0)) = true then (if (bt272.1.length : Int) = 1 then (if 0 < (bt272.1.length : Int) then (if ((rd_L4 bt272.1 0).length : Int) = 2 then (if 1 < ((rd_L4 bt272.1 0).length : Int) then (if (((rd_T59 (rd_L4 bt272.1 0) 1).f1).size : Int) = (Go.bits .and .i64 a0 511) then ((glebelaw9_awake.f kj4).bind fun t282 => (some t282)) else (none)) else (none)) else (none)) else (none)) else (none)) else (none)))) = some r := by first | (rw [hy269]; with_reducible exact H) | (have H2_ := (Option.bind_some _ _).symm.trans H; rw [hy269]; with_reducible exact H2_) | (have H2_ := (Option.bind_some _ _).symm.trans H; with_reducible exact H2_) | with_reducible exact H | (rw [hy269]; exact H) | exact H
                have Ny269 := Aside0.mk hy269
                clear hy269
                replace H := Option.bind_eq_some_iff.mp H
                obtain ⟨⟨t272, t275, t276⟩, A110, H⟩ := H
                replace H : (if (Go.bits .and .i64 a0 511) > 255 then (if (t275 == 2 && (t276 == 2)) = true then (if (t272.length : Int) = 0 then ((glebelaw9_awake.f kj4).bind fun t278 => (some t278)) else (none)) else (none)) else (if (t275 == 0 && (t276 == 0)) = true then (if (t272.length : Int) = 1 then (if 0 < (t272.length : Int) then (if ((rd_L4 t272 0).length : Int) = 2 then (if 1 < ((rd_L4 t272 0).length : Int) then (if (((rd_T59 (rd_L4 t272 0) 1).f1).size : Int) = (Go.bits .and .i64 a0 511) then ((glebelaw9_awake.f kj4).bind fun t282 => (some t282)) else (none)) else (none)) else (none)) else (none)) else (none)) else (none))) = some r := H
                have A11 := Aside0.mk A110
                clear A110
                by_cases c12 : (Go.bits .and .i64 a0 511) > 255
                · rw [if_pos c12] at H
                  have c12b0 : decide (255 < (Go.bits .and .i64 a0 511)) = true := decide_eq_true c12
                  clear c12
                  by_cases c13 : (t275 == 2 && (t276 == 2)) = true
                  · rw [if_pos c13] at H
                    have c13b0 : (t275 == 2 && (t276 == 2)) = true := c13
                    (try (have c13b1 : decide (t275 = 2 && (t276 == 2)) = true := by simpa using c13))
                    (try (have c13b2 : (t275 == 2 && (t276 == 2)) = true := by simpa using c13))
                    clear c13
                    by_cases c14 : (t272.length : Int) = 0
                    · rw [if_pos c14] at H
                      have c14b0 : ((t272.length : Int) == 0) = true := beq_iff_eq.mpr c14
                      have c14b1 : ((t272.length : Int) != 0) = false := bne_eq_false_iff_eq.mpr c14
                      clear c14
                      replace H := Option.bind_eq_some_iff.mp H
                      obtain ⟨t278, A150, H⟩ := H
                      replace H : (some t278) = some r := H
                      have A15 := Aside0.mk A150
                      clear A150
                      obtain rfl := Option.some.inj H
                      go_wp2_with (first | ((with_reducible refine gate_dst (N := 26) rfl ?_); (try (refine gate_guard (by rfl) ?_; dsimp only)); refine XW.V_bytes _ 5 rfl (N := 26) rfl 9 35 _ rfl (((⟨#[120, 44]⟩ : ByteArray) ++ x5_4) ++ (⟨#[10]⟩ : ByteArray)) rfl Tryd.underlying9 Tryd.underlying35 Tryd.underlying5 (by have h_ : 2 + x5_4.size + 1 ≤ 9223372036854775807 := of_decide_eq_true (by first | (with_reducible assumption) | assumption); first | exact h_ | (simp only [ByteArray.size_append]; exact h_)) (ok := (fun _ => True)) (fun k_ hk => trivial) (Below.refl _ _) (Nat.le_refl _) ?_; intro v270 w16 ho17 hb hg_ hnew_; clear hg_ hnew_; (first | rw [← Ny269.out] at ho17 | (simp only [Int.reduceToNat] at ho17; rw [← Ny269.out] at ho17)); have n0_ := Aside0.mk (Kd.V_lower ho17 (below_size (by repeat (first | (with_reducible first | exact HB.out | apply below_alloc | apply pw_below_drewN | apply below_drew1) | exact HB.out)))); have n1_ := Aside0.mk (below_step (by repeat (first | (with_reducible first | exact HB.out | apply below_alloc | apply pw_below_drewN | apply below_drew1) | exact HB.out)) hb); clear HB; have HO271 := n0_; have HB := n1_; clear n0_ n1_; clear hb ho17; obtain ⟨Ao18, co18, eo18⟩ := Kd.V_slice HO271.out; subst eo18) | ((with_reducible refine gate_callee (f := 33) rfl ?_); refine goesL_ (some 27) rfl rfl Tryd.func33 (by kernel_rfl) rfl #[.slice Ao18 y269.length co18] rfl (by (try simp only [List.map_toArray, List.map_cons, List.map_nil]); first | done | rfl | (simp only [List.length_drop, List.length_take]; rfl)) ?_; (with_reducible refine (csvr_Parse.calls kj4 _ _ y269 t272 t275 t276 _ ?side1 ?side2 A11.out).mono ?_); (case side1 => repeat (first | exact (Kd.V_reads' HO271.out).2.2 | (with_reducible refine Kd.C_alloc ?_ _) | (with_reducible refine Kd.C_drewN ?_ _) | (with_reducible refine Kd.C_drew ?_))); (case side2 => exact (Kd.V_reads' HO271.out).2.1); rintro e w19 ⟨v273, rfl, ho0, hb⟩; refine ⟨_, rfl, ?_⟩; have n0_ := Aside0.mk (Kd.V_elder' (by (with_reducible repeat (first | apply Kd.V_alloc | apply Kd.V_drewN | apply Kd.V_drew)); exact HO271.out) (Kd.S_base ho0) hb); have n1_ := Aside0.mk (Kd.S_lower ho0 (below_size (by repeat (first | (with_reducible first | exact HB.out | apply below_alloc | apply pw_below_drewN | apply below_drew1) | exact HB.out)))); have n2_ := Aside0.mk (below_step (by repeat (first | (with_reducible first | exact HB.out | apply below_alloc | apply pw_below_drewN | apply below_drew1) | exact HB.out)) hb); clear HO271; clear HB; have HO271 := n0_; have HO274 := n1_; have HB := n2_; clear n0_ n1_ n2_; (try clear hb); (try clear hb2); (try clear hk); (try clear hi); (try clear ho0)) | ((with_reducible refine gate_dst (N := 8) rfl ?_); (try (refine gate_guard (by rfl) ?_; dsimp only)); refine box_event ?hg (N := 8) ?hd (cs := #[.int .i64 0, .int .i64 0]) (t := 54) ?hr ?_; (case hd => rfl); (case hg => rfl); (case hr => first | (go_simp; done) | (go_simp; rfl)); intro gb277 hg w20 hbox hb; have n0_ := Aside0.mk (Kd.V_below (Kd.V_elderB (by (with_reducible repeat (first | apply Kd.V_alloc | apply Kd.V_drewN | apply Kd.V_drew)); exact HO271.out) gb277 (Nat.le_of_eq hg.symm)) hb); have n1_ := Aside0.mk (Kd.S_below (by (with_reducible repeat (first | apply Kd.S_alloc | apply Kd.S_drewN | apply Kd.S_drew)); exact HO274.out) hb); have n2_ := Aside0.mk (below_step (by repeat (first | (with_reducible first | exact HB.out | apply below_alloc | apply pw_below_drewN | apply below_drew1) | exact HB.out)) hb); have n3_ := Aside0.mk (hbox); have n4_ := Aside0.mk ((by rw [hg]; exact (below_size (by repeat (first | (with_reducible first | exact HB.out | apply below_alloc | apply pw_below_drewN | apply below_drew1) | exact HB.out))) : w.heap.size ≤ gb277)); have n5_ := Aside0.mk ((by rw [hg]; exact (below_size (by repeat (first | (with_reducible first | exact HB.out | apply below_alloc | apply pw_below_drewN | apply below_drew1) | exact HB.out))) : w.heap.size ≤ gb277)); clear HO271; clear HO274; clear HB; have HO271 := n0_; have HO274 := n1_; have HB := n2_; have BK277 := n3_; have GW277 := n4_; have GE277 := n5_; clear n0_ n1_ n2_ n3_ n4_ n5_; clear hb hbox hg; have hcz21_0 : w20.cell? ⟨gb277, 0, none⟩ = some (.int .i64 0) := (blk_cell BK277.out 0).trans rfl; have hcz21_1 : w20.cell? ⟨gb277, 1, none⟩ = some (.int .i64 0) := (blk_cell BK277.out 1).trans rfl; have hfz21_0 := blk_frozen BK277.out 0; have hfz21_1 := blk_frozen BK277.out 1; obtain ⟨Ao22, co22, eo22⟩ := Kd.S_slice HO274.out; subst eo22) | (go_at_call 34; (with_reducible refine (glebelaw9_awake.calls kj4  t278 _ ?side1 A15.out).mono ?_); (case side1 => exact XM.Tabs.below hMax (by repeat (first | (with_reducible first | exact HB.out | apply below_alloc | apply pw_below_drewN | apply below_drew1 | refine below_set ?_ GE277.out) | exact HB.out))); rintro e w23 ⟨rfl, hb⟩; have n0_ := Aside0.mk (Kd.V_below (by (with_reducible repeat (first | apply Kd.V_alloc | apply Kd.V_drewN | apply Kd.V_drew)); exact (Kd.V_mono (Kd.V_far (p := ⟨gb277, 1, none⟩) (Kd.V_far (p := ⟨gb277, 0, none⟩) (Kd.V_mono HO271.out (fun k_ hk => (⟨hk, hk.2⟩ : _ ∧ k_ ≠ gb277))) (fun _ hk => hk.2) (.int .i64 t275)) (fun _ hk => hk.2) (.int .i64 t276)) (fun _ h_ => h_.1))) hb); have n1_ := Aside0.mk (Kd.S_below (by (with_reducible repeat (first | apply Kd.S_alloc | apply Kd.S_drewN | apply Kd.S_drew)); exact (Kd.S_mono (Kd.S_far (p := ⟨gb277, 1, none⟩) (Kd.S_far (p := ⟨gb277, 0, none⟩) (Kd.S_types HO274.out BK277.out (by decide)) (fun _ hk => hk.2) (.int .i64 t275)) (fun _ hk => hk.2) (.int .i64 t276)) (fun _ h_ => h_.1))) hb); have n2_ := Aside0.mk (blk_below (g := gb277) (o := .cells #[.int .i64 t275, .int .i64 t276] 54 (0, 0)) (by (with_reducible repeat (first | refine blk_drewN ?_ _ | refine blk_drew ?_ | refine blk_alloc ?_ _)); refine blk_put (cs := #[.int .i64 t275, .int .i64 0]) ?_ 1 _ rfl; (with_reducible repeat (first | refine blk_drewN ?_ _ | refine blk_drew ?_ | refine blk_alloc ?_ _)); refine blk_put (cs := #[.int .i64 0, .int .i64 0]) ?_ 0 _ rfl; (with_reducible repeat (first | refine blk_drewN ?_ _ | refine blk_drew ?_ | refine blk_alloc ?_ _)); exact BK277.out) hb); have n3_ := Aside0.mk (below_step (by repeat (first | (with_reducible first | exact HB.out | apply below_alloc | apply pw_below_drewN | apply below_drew1 | refine below_set ?_ GE277.out) | exact HB.out)) hb); clear HO271; clear HO274; clear BK277; clear HB; have HO271 := n0_; have HO274 := n1_; have BK277 := n2_; have HB := n3_; clear n0_ n1_ n2_ n3_; (try clear hb); (try clear hb2); (try clear hk); (try clear hi)))
                      go_ret
                      exact ⟨by first | rfl | (simp [errW_none, errW_some] <;> rfl) | (simp [*, errW_none, errW_some] <;> rfl), by repeat (first | (with_reducible first | exact HB.out | apply below_alloc | apply pw_below_drewN | apply below_drew1 | refine below_set ?_ GE277.out) | exact HB.out)⟩
                    · rw [if_neg c14] at H
                      exact absurd H (by simp)
                  · rw [if_neg c13] at H
                    exact absurd H (by simp)
                · rw [if_neg c12] at H
                  have c12b0 : decide (255 < (Go.bits .and .i64 a0 511)) = false := decide_eq_false c12
                  clear c12
                  by_cases c24 : (t275 == 0 && (t276 == 0)) = true
                  · rw [if_pos c24] at H
                    have c24b0 : (t275 == 0 && (t276 == 0)) = true := c24
                    (try (have c24b1 : decide (t275 = 0 && (t276 == 0)) = true := by simpa using c24))
                    (try (have c24b2 : (t275 == 0 && (t276 == 0)) = true := by simpa using c24))
                    clear c24
                    by_cases c25 : (t272.length : Int) = 1
                    · rw [if_pos c25] at H
                      have c25b0 : ((t272.length : Int) == 1) = true := beq_iff_eq.mpr c25
                      have c25b1 : ((t272.length : Int) != 1) = false := bne_eq_false_iff_eq.mpr c25
                      clear c25
                      by_cases c26 : 0 < (t272.length : Int)
                      · rw [if_pos c26] at H
                        have c26b0 : decide (0 < (t272.length : Int)) = true := decide_eq_true c26
                        have c26b1 : decide (0 < t272.length) = true := decide_eq_true (by omega)
                        clear c26
                        by_cases c27 : ((rd_L4 t272 0).length : Int) = 2
                        · rw [if_pos c27] at H
                          have c27b0 : (((rd_L4 t272 0).length : Int) == 2) = true := beq_iff_eq.mpr c27
                          have c27b1 : (((rd_L4 t272 0).length : Int) != 2) = false := bne_eq_false_iff_eq.mpr c27
                          clear c27
                          by_cases c28 : 1 < ((rd_L4 t272 0).length : Int)
                          · rw [if_pos c28] at H
                            have c28b0 : decide (1 < ((rd_L4 t272 0).length : Int)) = true := decide_eq_true c28
                            have c28b1 : decide (1 < (rd_L4 t272 0).length) = true := decide_eq_true (by omega)
                            clear c28
                            by_cases c29 : (((rd_T59 (rd_L4 t272 0) 1).f1).size : Int) = (Go.bits .and .i64 a0 511)
                            · rw [if_pos c29] at H
                              have c29b0 : ((((rd_T59 (rd_L4 t272 0) 1).f1).size : Int) == (Go.bits .and .i64 a0 511)) = true := beq_iff_eq.mpr c29
                              have c29b1 : ((((rd_T59 (rd_L4 t272 0) 1).f1).size : Int) != (Go.bits .and .i64 a0 511)) = false := bne_eq_false_iff_eq.mpr c29
                              clear c29
                              replace H := Option.bind_eq_some_iff.mp H
                              obtain ⟨t282, A300, H⟩ := H
                              replace H : (some t282) = some r := H
                              have A30 := Aside0.mk A300
                              clear A300
                              obtain rfl := Option.some.inj H
                              go_wp2_with (first | ((with_reducible refine gate_dst (N := 26) rfl ?_); (try (refine gate_guard (by rfl) ?_; dsimp only)); refine XW.V_bytes _ 5 rfl (N := 26) rfl 9 35 _ rfl (((⟨#[120, 44]⟩ : ByteArray) ++ x5_4) ++ (⟨#[10]⟩ : ByteArray)) rfl Tryd.underlying9 Tryd.underlying35 Tryd.underlying5 (by have h_ : 2 + x5_4.size + 1 ≤ 9223372036854775807 := of_decide_eq_true (by first | (with_reducible assumption) | assumption); first | exact h_ | (simp only [ByteArray.size_append]; exact h_)) (ok := (fun _ => True)) (fun k_ hk => trivial) (Below.refl _ _) (Nat.le_refl _) ?_; intro v270 w31 ho32 hb hg_ hnew_; clear hg_ hnew_; (first | rw [← Ny269.out] at ho32 | (simp only [Int.reduceToNat] at ho32; rw [← Ny269.out] at ho32)); have n0_ := Aside0.mk (Kd.V_lower ho32 (below_size (by repeat (first | (with_reducible first | exact HB.out | apply below_alloc | apply pw_below_drewN | apply below_drew1) | exact HB.out)))); have n1_ := Aside0.mk (below_step (by repeat (first | (with_reducible first | exact HB.out | apply below_alloc | apply pw_below_drewN | apply below_drew1) | exact HB.out)) hb); clear HB; have HO271 := n0_; have HB := n1_; clear n0_ n1_; clear hb ho32; obtain ⟨Ao33, co33, eo33⟩ := Kd.V_slice HO271.out; subst eo33) | ((with_reducible refine gate_callee (f := 33) rfl ?_); refine goesL_ (some 27) rfl rfl Tryd.func33 (by kernel_rfl) rfl #[.slice Ao33 y269.length co33] rfl (by (try simp only [List.map_toArray, List.map_cons, List.map_nil]); first | done | rfl | (simp only [List.length_drop, List.length_take]; rfl)) ?_; (with_reducible refine (csvr_Parse.calls kj4 _ _ y269 t272 t275 t276 _ ?side1 ?side2 A11.out).mono ?_); (case side1 => repeat (first | exact (Kd.V_reads' HO271.out).2.2 | (with_reducible refine Kd.C_alloc ?_ _) | (with_reducible refine Kd.C_drewN ?_ _) | (with_reducible refine Kd.C_drew ?_))); (case side2 => exact (Kd.V_reads' HO271.out).2.1); rintro e w34 ⟨v273, rfl, ho0, hb⟩; refine ⟨_, rfl, ?_⟩; have n0_ := Aside0.mk (Kd.V_elder' (by (with_reducible repeat (first | apply Kd.V_alloc | apply Kd.V_drewN | apply Kd.V_drew)); exact HO271.out) (Kd.S_base ho0) hb); have n1_ := Aside0.mk (Kd.S_lower ho0 (below_size (by repeat (first | (with_reducible first | exact HB.out | apply below_alloc | apply pw_below_drewN | apply below_drew1) | exact HB.out)))); have n2_ := Aside0.mk (below_step (by repeat (first | (with_reducible first | exact HB.out | apply below_alloc | apply pw_below_drewN | apply below_drew1) | exact HB.out)) hb); clear HO271; clear HB; have HO271 := n0_; have HO274 := n1_; have HB := n2_; clear n0_ n1_ n2_; (try clear hb); (try clear hb2); (try clear hk); (try clear hi); (try clear ho0)) | ((with_reducible refine gate_dst (N := 8) rfl ?_); (try (refine gate_guard (by rfl) ?_; dsimp only)); refine box_event ?hg (N := 8) ?hd (cs := #[.int .i64 0, .int .i64 0]) (t := 54) ?hr ?_; (case hd => rfl); (case hg => rfl); (case hr => first | (go_simp; done) | (go_simp; rfl)); intro gb277 hg w35 hbox hb; have n0_ := Aside0.mk (Kd.V_below (Kd.V_elderB (by (with_reducible repeat (first | apply Kd.V_alloc | apply Kd.V_drewN | apply Kd.V_drew)); exact HO271.out) gb277 (Nat.le_of_eq hg.symm)) hb); have n1_ := Aside0.mk (Kd.S_below (by (with_reducible repeat (first | apply Kd.S_alloc | apply Kd.S_drewN | apply Kd.S_drew)); exact HO274.out) hb); have n2_ := Aside0.mk (below_step (by repeat (first | (with_reducible first | exact HB.out | apply below_alloc | apply pw_below_drewN | apply below_drew1) | exact HB.out)) hb); have n3_ := Aside0.mk (hbox); have n4_ := Aside0.mk ((by rw [hg]; exact (below_size (by repeat (first | (with_reducible first | exact HB.out | apply below_alloc | apply pw_below_drewN | apply below_drew1) | exact HB.out))) : w.heap.size ≤ gb277)); have n5_ := Aside0.mk ((by rw [hg]; exact (below_size (by repeat (first | (with_reducible first | exact HB.out | apply below_alloc | apply pw_below_drewN | apply below_drew1) | exact HB.out))) : w.heap.size ≤ gb277)); clear HO271; clear HO274; clear HB; have HO271 := n0_; have HO274 := n1_; have HB := n2_; have BK277 := n3_; have GW277 := n4_; have GE277 := n5_; clear n0_ n1_ n2_ n3_ n4_ n5_; clear hb hbox hg; have hcz36_0 : w35.cell? ⟨gb277, 0, none⟩ = some (.int .i64 0) := (blk_cell BK277.out 0).trans rfl; have hcz36_1 : w35.cell? ⟨gb277, 1, none⟩ = some (.int .i64 0) := (blk_cell BK277.out 1).trans rfl; have hfz36_0 := blk_frozen BK277.out 0; have hfz36_1 := blk_frozen BK277.out 1) | ((with_reducible refine gate_store (t := 54) (p := 8) rfl ?_); refine store_event (t := 54) (p := 8) (v := ?vo_w37) (w1 := ((w35.setCell ⟨gb277, 0, none⟩ (.int .i64 t275)).setCell ⟨gb277, 1, none⟩ (.int .i64 t276))) ?hg ?ho ?hn ?hr ?_; (case ho => rfl); (case hg => rfl); (case hn => rfl); (case hr => first | (go_simp; done) | (go_simp; rfl)); intro w37 hw; have n0_ : Aside0 (Kd.V (Kd.int .u8) 5 w37 w.heap.size (fun k_ => some k_ ≠ (v273 : Value).ownBlock ∧ k_ ≠ gb277) (.slice Ao33 y269.length co33) y269) := ⟨(by rw [hw]; exact (by (with_reducible repeat (first | apply Kd.V_alloc | apply Kd.V_drewN | apply Kd.V_drew)); exact Kd.V_mono (Kd.V_far (p := ⟨gb277, 1, none⟩) (Kd.V_far (p := ⟨gb277, 0, none⟩) (Kd.V_mono HO271.out (fun k_ hk => (⟨hk, hk.2⟩ : _ ∧ k_ ≠ gb277))) (fun _ hk => hk.2) (.int .i64 t275)) (fun _ hk => hk.2) (.int .i64 t276)) (fun _ hk => ⟨hk.1.1.2, hk.1.2⟩)))⟩; have n1_ : Aside0 (Kd.S (Kd.slice 59 k59) 57 w37 w.heap.size (fun _ => True) v273 t272) := ⟨(by rw [hw]; exact (by (with_reducible repeat (first | apply Kd.S_alloc | apply Kd.S_drewN | apply Kd.S_drew)); exact Kd.S_mono (Kd.S_far (p := ⟨gb277, 1, none⟩) (Kd.S_far (p := ⟨gb277, 0, none⟩) (Kd.S_types HO274.out BK277.out (by decide)) (fun _ hk => hk.2) (.int .i64 t275)) (fun _ hk => hk.2) (.int .i64 t276)) (fun _ hk => trivial)))⟩; have n2_ : Aside0 (w37.heap[gb277]? = some (.cells #[.int .i64 t275, .int .i64 t276] 54 (0, 0))) := ⟨(by rw [hw]; exact (by (with_reducible repeat (first | refine blk_drewN ?_ _ | refine blk_drew ?_ | refine blk_alloc ?_ _)); refine blk_put (cs := #[.int .i64 t275, .int .i64 0]) ?_ 1 _ rfl; (with_reducible repeat (first | refine blk_drewN ?_ _ | refine blk_drew ?_ | refine blk_alloc ?_ _)); refine blk_put (cs := #[.int .i64 0, .int .i64 0]) ?_ 0 _ rfl; (with_reducible repeat (first | refine blk_drewN ?_ _ | refine blk_drew ?_ | refine blk_alloc ?_ _)); exact BK277.out))⟩; have n3_ : Aside0 (Below w.heap.size w w37) := ⟨(by rw [hw]; exact (by repeat (first | (with_reducible first | exact HB.out | apply below_alloc | apply pw_below_drewN | apply below_drew1 | refine below_set ?_ GE277.out) | exact HB.out)))⟩; clear hw; clear HO271; clear HO274; clear BK277; clear HB; have HO271 := n0_; have HO274 := n1_; have BK277 := n2_; have HB := n3_; clear n0_ n1_ n2_ n3_; have hcz38_0 : w37.cell? ⟨gb277, 0, none⟩ = some (.int .i64 t275) := (blk_cell BK277.out 0).trans rfl; have hcz38_1 : w37.cell? ⟨gb277, 1, none⟩ = some (.int .i64 t276) := (blk_cell BK277.out 1).trans rfl; have hfz38_0 := blk_frozen BK277.out 0; have hfz38_1 := blk_frozen BK277.out 1; obtain ⟨Ao39, co39, eo39⟩ := Kd.S_slice HO274.out; subst eo39; have p279 : 0 ≤ (0 : Int) := (by omega); have q279 : 0 < (t272.length : Int) := of_decide_eq_true (by first | (with_reducible assumption) | assumption); obtain ⟨ad279, A279_0, c279_0, e279, hx279_0, hl279_0, hi279_0⟩ := at_L4 (Kd.S_reads' HO274.out).2.2 0 p279 q279; cases e279; obtain ⟨ce279, hce279, hMe279, hcc279⟩ := Kd.S_get HO274.out [] 0 p279 (by first | exact q279 | exact of_decide_eq_true (by first | (with_reducible assumption) | assumption) | (have e_ := (Kd.S_reads' HO274.out).1; omega)); obtain ⟨ve279_0, rfl, ge279_0⟩ := hMe279; have hv279_0 := hcc279 0 _ rfl; rw [Nat.add_zero, show ((Kd.slice 59 k59)).sz = 1 from rfl, Nat.mul_one] at hv279_0; replace hv279_0 := Option.some.inj (hv279_0.symm.trans hx279_0); rw [hv279_0] at ge279_0; have HL279_0 := Aside0.mk (show Kd.R k59 59 _ _ _ _ (rd_L4 t272 0) from ge279_0); clear hv279_0 ge279_0; clear hcc279 hce279; have qi279 : (0 < t272.length) = True := eq_true (by omega); (try rw [show ((0 : Int)).toNat = 0 from rfl] at hx279_0); (try rw [Addr.add_zero'] at hx279_0); have HR279_0 := Aside0.mk hi279_0; have HC279_0 := Aside0.mk hl279_0; clear hi279_0 hl279_0; replace p279 := eq_true p279; replace q279 := eq_true q279; have p280 : 0 ≤ (0 : Int) := (by omega); have q280 : 0 < (t272.length : Int) := of_decide_eq_true (by first | (with_reducible assumption) | assumption); obtain ⟨ad280, A280_0, c280_0, e280, hx280_0, hl280_0, hi280_0⟩ := at_L4 (Kd.S_reads' HO274.out).2.2 0 p280 q280; obtain rfl : ad279 = ad280 := (by injection e280); obtain ⟨ce280, hce280, hMe280, hcc280⟩ := Kd.S_get HO274.out [] 0 p280 (by first | exact q280 | exact of_decide_eq_true (by first | (with_reducible assumption) | assumption) | (have e_ := (Kd.S_reads' HO274.out).1; omega)); obtain ⟨ve280_0, rfl, ge280_0⟩ := hMe280; have hv280_0 := hcc280 0 _ rfl; rw [Nat.add_zero, show ((Kd.slice 59 k59)).sz = 1 from rfl, Nat.mul_one] at hv280_0; replace hv280_0 := Option.some.inj (hv280_0.symm.trans hx280_0); rw [hv280_0] at ge280_0; have HL280_0 := Aside0.mk (show Kd.R k59 59 _ _ _ _ (rd_L4 t272 0) from ge280_0); clear hv280_0 ge280_0; clear hcc280 hce280; have qi280 : (0 < t272.length) = True := eq_true (by omega); (try rw [show ((0 : Int)).toNat = 0 from rfl] at hx280_0); (try rw [Addr.add_zero'] at hx280_0); have HR280_0 := Aside0.mk hi280_0; have HC280_0 := Aside0.mk hl280_0; clear hi280_0 hl280_0; replace p280 := eq_true p280; replace q280 := eq_true q280; have ea_ := Option.some.inj (hx279_0.symm.trans hx280_0); injection ea_ with ea_ en_ ec_; subst ea_; subst ec_; clear en_; have p281 : 0 ≤ (1 : Int) := (by omega); have q281 : 1 < ((rd_L4 t272 0).length : Int) := of_decide_eq_true (by first | (with_reducible assumption) | assumption); obtain ⟨ad281, e281, hx281_0, hx281_1, hx281_2⟩ := at_T59 (by repeat (first | (with_reducible exact HR280_0.out) | (with_reducible refine Kd.C_alloc ?_ _) | (with_reducible refine Kd.C_drewN ?_ _) | (with_reducible refine Kd.C_drew ?_) | exact HR280_0.out)) 1 p281 q281; cases e281; (try simp only [show (1 : Int).toNat = 1 from rfl, Nat.reduceMul, Nat.reduceEqDiff, Go.Addr.add, ↓reduceIte] at hx281_0); (try simp only [show (1 : Int).toNat = 1 from rfl, Nat.reduceMul, Nat.reduceEqDiff, Go.Addr.add, ↓reduceIte] at hx281_1); (try simp only [show (1 : Int).toNat = 1 from rfl, Nat.reduceMul, Nat.reduceEqDiff, Go.Addr.add, ↓reduceIte] at hx281_2); have qi281 : (1 < (rd_L4 t272 0).length) = True := eq_true (by omega); (try rw [show ((1 : Int)).toNat = 1 from rfl] at hx281_0); (try rw [show 1 * 3 = 3 from rfl] at hx281_0); (try rw [show ((1 : Int)).toNat = 1 from rfl] at hx281_1); (try rw [show 1 * 3 = 3 from rfl] at hx281_1); (try rw [show ((1 : Int)).toNat = 1 from rfl] at hx281_2); (try rw [show 1 * 3 = 3 from rfl] at hx281_2); replace p281 := eq_true p281; replace q281 := eq_true q281) | (go_at_call 34; (with_reducible refine (glebelaw9_awake.calls kj4  t282 _ ?side1 A30.out).mono ?_); (case side1 => exact XM.Tabs.below hMax (by repeat (first | (with_reducible first | exact HB.out | apply below_alloc | apply pw_below_drewN | apply below_drew1 | refine below_set ?_ GE277.out) | exact HB.out))); rintro e w40 ⟨rfl, hb⟩; have n0_ := Aside0.mk (Kd.V_below (by (with_reducible repeat (first | apply Kd.V_alloc | apply Kd.V_drewN | apply Kd.V_drew)); exact HO271.out) hb); have n1_ := Aside0.mk (Kd.S_below (by (with_reducible repeat (first | apply Kd.S_alloc | apply Kd.S_drewN | apply Kd.S_drew)); exact HO274.out) hb); have n2_ := Aside0.mk (Kd.R_below (by (with_reducible repeat (first | apply Kd.R_alloc | apply Kd.R_drewN | apply Kd.R_drew)); exact HL279_0.out) hb); have n3_ := Aside0.mk (Kd.R_below (by (with_reducible repeat (first | apply Kd.R_alloc | apply Kd.R_drewN | apply Kd.R_drew)); exact HL280_0.out) hb); have n4_ := Aside0.mk (blk_below (g := gb277) (o := .cells #[.int .i64 t275, .int .i64 t276] 54 (0, 0)) (by (with_reducible repeat (first | refine blk_drewN ?_ _ | refine blk_drew ?_ | refine blk_alloc ?_ _)); exact BK277.out) hb); have n5_ := Aside0.mk (Kd.C_below (by repeat (first | (with_reducible exact HR279_0.out) | (with_reducible refine Kd.C_alloc ?_ _) | (with_reducible refine Kd.C_drewN ?_ _) | (with_reducible refine Kd.C_drew ?_) | exact HR279_0.out)) hb); have n6_ := Aside0.mk (Kd.C_below (by repeat (first | (with_reducible exact HR280_0.out) | (with_reducible refine Kd.C_alloc ?_ _) | (with_reducible refine Kd.C_drewN ?_ _) | (with_reducible refine Kd.C_drew ?_) | exact HR280_0.out)) hb); have n7_ := Aside0.mk (below_step (by repeat (first | (with_reducible first | exact HB.out | apply below_alloc | apply pw_below_drewN | apply below_drew1 | refine below_set ?_ GE277.out) | exact HB.out)) hb); clear HO271; clear HO274; clear HL279_0; clear HL280_0; clear BK277; clear HR279_0; clear HR280_0; clear HB; have HO271 := n0_; have HO274 := n1_; have HL279_0 := n2_; have HL280_0 := n3_; have BK277 := n4_; have HR279_0 := n5_; have HR280_0 := n6_; have HB := n7_; clear n0_ n1_ n2_ n3_ n4_ n5_ n6_ n7_; (try clear hb); (try clear hb2); (try clear hk); (try clear hi)))
                              go_ret
                              exact ⟨by first | rfl | (simp [errW_none, errW_some] <;> rfl) | (simp [*, errW_none, errW_some] <;> rfl), by repeat (first | (with_reducible first | exact HB.out | apply below_alloc | apply pw_below_drewN | apply below_drew1 | refine below_set ?_ GE277.out) | exact HB.out)⟩
                            · rw [if_neg c29] at H
                              exact absurd H (by simp)
                          · rw [if_neg c28] at H
                            exact absurd H (by simp)
                        · rw [if_neg c27] at H
                          exact absurd H (by simp)
                      · rw [if_neg c26] at H
                        exact absurd H (by simp)
                    · rw [if_neg c25] at H
                      exact absurd H (by simp)
                  · rw [if_neg c24] at H
                    exact absurd H (by simp)
              · rw [if_neg c10] at H
                exact absurd H (by simp)
            · rw [if_neg c9] at H
              exact absurd H (by simp)

/-- THE ONE PURE STATEMENT of glebelaw9_CsvrLong: yours. -/
def glebelaw9_CsvrLong.Pure : Prop := ∀ (a0 : Int) (a1 : Bool), (Lit.int .i64 a0).wf = true → ∃ k, glebelaw9_CsvrLong.f k a0 a1 = some true
theorem glebelaw9_CsvrLong.walk (P : glebelaw9_CsvrLong.Pure) (a0 : Int) (a1 : Bool) (w : World) (w0 : (Lit.int .i64 a0).wf = true) (hMax : XM.Tabs w) :
    Calls Tryd.prog 11 #[.int .i64 a0, .bool a1] w fun e w' => e = .returned (.bool true) ∧ Below w.heap.size w w' := by
  obtain ⟨k, h⟩ := P a0 a1 w0
  refine (glebelaw9_CsvrLong.calls k a0 a1 true w hMax h).mono ?_
  rintro e w' ⟨rfl, hd⟩
  exact ⟨rfl, hd⟩

end Go.Proofs.YtcgchblljhbdaaaDoor.C
