-- Printed by this session's own program (wip/xprint) out of the translation. Lean checks it.
import Derived.Test.YtnkcffmklomfhaaDx0
import Derived.Test.YtnkcffmklomfhaaDx1
import Derived.Test.YtnkcffmklomfhaaDx5
import Derived.Test.YtnkcffmklomfhaaDx6
namespace Go.Proofs.Ytnkcffmklomfhaa.D
open Go.Proofs.Ytnkcffmklomfhaa
open Go.RowKit Go.Proofs.YtnkcffmklomfhaaW.PrintWords Go.Proofs.YtnkcffmklomfhaaW.PrintLast Go.Proofs.YtnkcffmklomfhaaW.PrintMore
attribute [local go_sem] max2_int min2_int max_two min_two max_three min_three max_four min_four   -- for this text's walks alone
set_option linter.unusedVariables false
set_option linter.unusedSimpArgs false

attribute [local go_sem high] eqA26
/-! ### glebelaw10_DnslLong: function 8 -/
mutual
def glebelaw10_DnslLong.l0 : Nat → Int → Int → Bool → ByteArray → Int → Option (Bool)
  | 0, _, _, _, _, _ => none
  | k + 1, x0, x1, x2, x7, x8 => if x8 < x1 then (if x7.size + 2 ≤ 9223372036854775807 then (glebelaw10_DnslLong.l0 k x0 x1 x2 (x7 ++ (⟨#[97, 44]⟩ : ByteArray)) (wrap64 (x8 + 1))) else (none)) else (glebelaw10_DnslLong.l1 k x0 x1 x2 x7 (x7.size : Int) 0)
def glebelaw10_DnslLong.l1 : Nat → Int → Int → Bool → ByteArray → Int → Int → Option (Bool)
  | 0, _, _, _, _, _, _ => none
  | k + 1, x0, x1, x2, x7, x9, x10 => if x10 < x0 then (if x7.size + 1 ≤ 9223372036854775807 then (glebelaw10_DnslLong.l1 k x0 x1 x2 (x7 ++ (⟨#[98]⟩ : ByteArray)) x9 (wrap64 (x10 + 1))) else (none)) else (if x2 = true then (if x7.size + 4 ≤ 9223372036854775807 then ((dnsl_Parse.f k (bytesOf (x7 ++ (⟨#[9, 44, 99, 10]⟩ : ByteArray)))).bind fun bt237 => (if (bt237.2.1 == 1 && (bt237.2.2 == (wrap64 (x9 + x0)))) = true then ((glebelaw10_awake.f k).bind fun t243 => (some t243)) else (none))) else (none)) else (if x7.size + 3 ≤ 9223372036854775807 then ((dnsl_Parse.f k (bytesOf (x7 ++ (⟨#[44, 99, 10]⟩ : ByteArray)))).bind fun bt247 => (if x0 > 255 then (if (bt247.2.1 == 2 && (bt247.2.2 == x9)) = true then (if (bt247.1.length : Int) = 0 then ((glebelaw10_awake.f k).bind fun t253 => (some t253)) else (none)) else (none)) else (if (bt247.2.1 == 0 && (bt247.2.2 == 0)) = true then (if (bt247.1.length : Int) = 1 then (if 0 < (bt247.1.length : Int) then (if (((rd_T47 bt247.1 0).f1).length : Int) = (wrap64 (x1 + 2)) then (if 0 ≤ x1 then (if x1 < (((rd_T47 bt247.1 0).f1).length : Int) then (if ((rd_T33 ((rd_T47 bt247.1 0).f1) x1).f2) = x9 then (if (((rd_T33 ((rd_T47 bt247.1 0).f1) x1).f1).size : Int) = x0 then ((glebelaw10_awake.f k).bind fun t259 => (some t259)) else (none)) else (none)) else (none)) else (none)) else (none)) else (none)) else (none)) else (none)))) else (none)))
end
def glebelaw10_DnslLong.f (k : Nat) (a0 : Int) (a1 : Int) (a2 : Bool) : Option (Bool) := glebelaw10_DnslLong.l0 k (Go.bits .and .i64 a0 511) (Go.bits .and .i64 a1 7) a2 (⟨#[107, 101, 121, 61]⟩ : ByteArray) 0
theorem glebelaw10_DnslLong.mono_l : ∀ k, (∀ y0 y1 y2 y3 y4, LeO (glebelaw10_DnslLong.l0 k y0 y1 y2 y3 y4) (glebelaw10_DnslLong.l0 (k + 1) y0 y1 y2 y3 y4)) ∧ (∀ y0 y1 y2 y3 y4 y5, LeO (glebelaw10_DnslLong.l1 k y0 y1 y2 y3 y4 y5) (glebelaw10_DnslLong.l1 (k + 1) y0 y1 y2 y3 y4 y5))
  | 0 => ⟨fun _ _ _ _ _ r h => by simp [glebelaw10_DnslLong.l0] at h, fun _ _ _ _ _ _ r h => by simp [glebelaw10_DnslLong.l1] at h⟩
  | k + 1 => by
    obtain ⟨ih0, ih1⟩ := glebelaw10_DnslLong.mono_l k
    refine ⟨?_, ?_⟩
    · intro y0 y1 y2 y3 y4
      unfold glebelaw10_DnslLong.l0
      repeat' first
      | (with_reducible exact ih0 _ _ _ _ _)
      | (with_reducible exact ih1 _ _ _ _ _ _)
      | (with_reducible exact dnsl_Parse.mono _ _)
      | (with_reducible exact glebelaw10_awake.mono _)
      | (with_reducible exact LeO.refl _)
      | (with_reducible exact LeO.none _)
      | (with_reducible refine LeO.ite ?_ ?_)
      | (with_reducible refine LeO.bind ?_ (fun _ => ?_))
      | exact ih0 _ _ _ _ _
      | exact ih1 _ _ _ _ _ _
      | exact dnsl_Parse.mono _ _
      | exact glebelaw10_awake.mono _
      | exact LeO.none _
      | refine LeO.ite ?_ ?_
      | refine LeO.bind ?_ (fun _ => ?_)
    · intro y0 y1 y2 y3 y4 y5
      unfold glebelaw10_DnslLong.l1
      repeat' first
      | (with_reducible exact ih0 _ _ _ _ _)
      | (with_reducible exact ih1 _ _ _ _ _ _)
      | (with_reducible exact dnsl_Parse.mono _ _)
      | (with_reducible exact glebelaw10_awake.mono _)
      | (with_reducible exact LeO.refl _)
      | (with_reducible exact LeO.none _)
      | (with_reducible refine LeO.ite ?_ ?_)
      | (with_reducible refine LeO.bind ?_ (fun _ => ?_))
      | exact ih0 _ _ _ _ _
      | exact ih1 _ _ _ _ _ _
      | exact dnsl_Parse.mono _ _
      | exact glebelaw10_awake.mono _
      | exact LeO.none _
      | refine LeO.ite ?_ ?_
      | refine LeO.bind ?_ (fun _ => ?_)
theorem glebelaw10_DnslLong.mono : ∀ a0 a1 a2 k, LeO (glebelaw10_DnslLong.f k a0 a1 a2) (glebelaw10_DnslLong.f (k + 1) a0 a1 a2) := by
  intro a0 a1 a2 k
  obtain ⟨ih0, ih1⟩ := glebelaw10_DnslLong.mono_l k
  unfold glebelaw10_DnslLong.f
  repeat' first
      | (with_reducible exact ih0 _ _ _ _ _)
      | (with_reducible exact ih1 _ _ _ _ _ _)
      | (with_reducible exact dnsl_Parse.mono _ _)
      | (with_reducible exact glebelaw10_awake.mono _)
      | (with_reducible exact LeO.refl _)
      | (with_reducible exact LeO.none _)
      | (with_reducible refine LeO.ite ?_ ?_)
      | (with_reducible refine LeO.bind ?_ (fun _ => ?_))
      | exact ih0 _ _ _ _ _
      | exact ih1 _ _ _ _ _ _
      | exact dnsl_Parse.mono _ _
      | exact glebelaw10_awake.mono _
      | exact LeO.none _
      | refine LeO.ite ?_ ?_
      | refine LeO.bind ?_ (fun _ => ?_)
set_option maxHeartbeats 8000000 in
set_option maxRecDepth 100000 in
theorem glebelaw10_DnslLong.calls (k : Nat) (a0 : Int) (a1 : Int) (a2 : Bool) (r : Bool) (w : World) (h : glebelaw10_DnslLong.f k a0 a1 a2 = some r) :
    Calls Try.prog 8 #[.int .i64 a0, .int .i64 a1, .bool a2] w fun e w' => e = .returned (.bool r) ∧ Below w.heap.size w w' := by
  have hu26 := Try.underlying26
  have HB := Aside0.mk (Below.refl w.heap.size w)
  have H : (glebelaw10_DnslLong.l0 k (Go.bits .and .i64 a0 511) (Go.bits .and .i64 a1 7) a2 (⟨#[107, 101, 121, 61]⟩ : ByteArray) 0) = some r := h
  clear h
  have H' := Aside0.mk H
  clear H
  go_enter Try.func8, Try.ntmps8
  go_wp2
  go_loopg [7, 8] k (fun kq v7 v8 w' => ∃ (x7_1 : ByteArray) (x8_1 : Int), v7 = .string x7_1 ∧ v8 = .int .i64 x8_1 ∧ Aside0 (glebelaw10_DnslLong.l0 kq (Go.bits .and .i64 a0 511) (Go.bits .and .i64 a1 7) a2 x7_1 x8_1 = some r) ∧ Aside0 (kq ≤ k) ∧ Aside0 (Below w.heap.size w w'))
  case atStart => exact ⟨((⟨#[107, 101, 121, 61]⟩ : ByteArray)), (0), (by first | rfl | (simp; done) | (simp [*]; done)), (by first | rfl | (simp; done) | (simp [*]; done)), H', ⟨Nat.le_refl _⟩, ⟨by repeat (first | (with_reducible first | exact HB.out | apply below_alloc | apply pw_below_drewN | apply below_drew1) | exact HB.out)⟩⟩
  case round =>
    clear H'
    try clear p2
    obtain ⟨x7_1, x8_1, rfl, rfl, HA, HK1, HB⟩ := hrel
    cases gk with
    | zero => exact absurd HA.out (by simp [glebelaw10_DnslLong.l0])
    | succ k1 =>
      have H := HA.out
      clear HA
      simp only [glebelaw10_DnslLong.l0] at H
      by_cases c4 : x8_1 < (Go.bits .and .i64 a1 7)
      · rw [if_pos c4] at H
        have c4b0 : decide (x8_1 < (Go.bits .and .i64 a1 7)) = true := decide_eq_true c4
        clear c4
        by_cases c5 : x7_1.size + 2 ≤ 9223372036854775807
        · rw [if_pos c5] at H
          have c5b0 := eq_true c5
          have c5b1 : decide (x7_1.size + 2 ≤ 9223372036854775807) = true := decide_eq_true c5
          try have c5b2 : (9223372036854775807 < x7_1.size + 2) = False := eq_false (Nat.not_lt.2 c5)
          have H' := Aside0.mk H
          clear H
          go_wp2
          go_roundg k1
          case measure => have := HK1.out; omega
          case rel => exact ⟨(x7_1 ++ (⟨#[97, 44]⟩ : ByteArray)), (wrap64 (x8_1 + 1)), (by first | rfl | (simp; done) | (simp [*]; done)), (by first | rfl | (simp; done) | (simp [*]; done)), H', ⟨by have := HK1.out; omega⟩, ⟨by repeat (first | (with_reducible first | exact HB.out | apply below_alloc | apply pw_below_drewN | apply below_drew1) | exact HB.out)⟩⟩
        · rw [if_neg c5] at H
          exact absurd H (by simp)
      · rw [if_neg c4] at H
        have c4b0 : decide (x8_1 < (Go.bits .and .i64 a1 7)) = false := decide_eq_false c4
        clear c4
        have H' := Aside0.mk H
        clear H
        go_wp2
        go_loopg [7, 10] k1 (fun kq v7 v10 w' => ∃ (x7_2 : ByteArray) (x10_2 : Int), v7 = .string x7_2 ∧ v10 = .int .i64 x10_2 ∧ Aside0 (glebelaw10_DnslLong.l1 kq (Go.bits .and .i64 a0 511) (Go.bits .and .i64 a1 7) a2 x7_2 (x7_1.size : Int) x10_2 = some r) ∧ Aside0 (kq ≤ k1) ∧ Aside0 (Below w.heap.size w w'))
        case atStart => exact ⟨(x7_1), (0), (by first | rfl | (simp; done) | (simp [*]; done)), (by first | rfl | (simp; done) | (simp [*]; done)), H', ⟨Nat.le_refl _⟩, ⟨by repeat (first | (with_reducible first | exact HB.out | apply below_alloc | apply pw_below_drewN | apply below_drew1) | exact HB.out)⟩⟩
        case round =>
          clear H'
          try clear p2
          try clear c4
          try clear c4b0
          try clear c5
          try clear c5b0
          try clear c5b1
          try clear c5b2
          try clear p2
          obtain ⟨x7_2, x10_2, rfl, rfl, HA, HK2, HB⟩ := hrel
          cases gk with
          | zero => exact absurd HA.out (by simp [glebelaw10_DnslLong.l1])
          | succ k2 =>
            have H := HA.out
            clear HA
            simp only [glebelaw10_DnslLong.l1] at H
            by_cases c6 : x10_2 < (Go.bits .and .i64 a0 511)
            · rw [if_pos c6] at H
              have c6b0 : decide (x10_2 < (Go.bits .and .i64 a0 511)) = true := decide_eq_true c6
              clear c6
              by_cases c7 : x7_2.size + 1 ≤ 9223372036854775807
              · rw [if_pos c7] at H
                have c7b0 := eq_true c7
                have c7b1 : decide (x7_2.size + 1 ≤ 9223372036854775807) = true := decide_eq_true c7
                try have c7b2 : (9223372036854775807 < x7_2.size + 1) = False := eq_false (Nat.not_lt.2 c7)
                have H' := Aside0.mk H
                clear H
                go_wp2
                go_roundg k2
                case measure => have := HK1.out; have := HK2.out; omega
                case rel => exact ⟨(x7_2 ++ (⟨#[98]⟩ : ByteArray)), (wrap64 (x10_2 + 1)), (by first | rfl | (simp; done) | (simp [*]; done)), (by first | rfl | (simp; done) | (simp [*]; done)), H', ⟨by have := HK1.out; have := HK2.out; omega⟩, ⟨by repeat (first | (with_reducible first | exact HB.out | apply below_alloc | apply pw_below_drewN | apply below_drew1) | exact HB.out)⟩⟩
              · rw [if_neg c7] at H
                exact absurd H (by simp)
            · rw [if_neg c6] at H
              have c6b0 : decide (x10_2 < (Go.bits .and .i64 a0 511)) = false := decide_eq_false c6
              clear c6
              by_cases c8 : a2 = true
              · subst c8
                have H1 : (if x7_2.size + 4 ≤ 9223372036854775807 then ((dnsl_Parse.f k2 (bytesOf (x7_2 ++ (⟨#[9, 44, 99, 10]⟩ : ByteArray)))).bind fun bt237 => (if (bt237.2.1 == 1 && (bt237.2.2 == (wrap64 ((x7_1.size : Int) + (Go.bits .and .i64 a0 511))))) = true then ((glebelaw10_awake.f k2).bind fun t243 => (some t243)) else (none))) else (none)) = some r := by rw [if_pos rfl] at H; exact H
                clear H
                have H := H1
                clear H1
                by_cases c9 : x7_2.size + 4 ≤ 9223372036854775807
                · rw [if_pos c9] at H
                  have c9b0 := eq_true c9
                  have c9b1 : decide (x7_2.size + 4 ≤ 9223372036854775807) = true := decide_eq_true c9
                  try have c9b2 : (9223372036854775807 < x7_2.size + 4) = False := eq_false (Nat.not_lt.2 c9)
                  obtain ⟨y234, hy234⟩ : ∃ y_ : List Int, y_ = (bytesOf (x7_2 ++ (⟨#[9, 44, 99, 10]⟩ : ByteArray))) := ⟨_, rfl⟩
                  replace H : ((dnsl_Parse.f k2 y234).bind fun bt237 => (if (bt237.2.1 == 1 && (bt237.2.2 == (wrap64 ((x7_1.size : Int) + (Go.bits .and .i64 a0 511))))) = true then ((glebelaw10_awake.f k2).bind fun t243 => (some t243)) else (none))) = some r := by first | (rw [hy234]; with_reducible exact H) | (have H2_ := (Option.bind_some _ _).symm.trans H; rw [hy234]; with_reducible exact H2_) | (have H2_ := (Option.bind_some _ _).symm.trans H; with_reducible exact H2_) | with_reducible exact H | (rw [hy234]; exact H) | exact H
                  have Ny234 := Aside0.mk hy234
                  clear hy234
                  replace H := Option.bind_eq_some_iff.mp H
                  obtain ⟨⟨t237, t240, t241⟩, A100, H⟩ := H
                  replace H : (if (t240 == 1 && (t241 == (wrap64 ((x7_1.size : Int) + (Go.bits .and .i64 a0 511))))) = true then ((glebelaw10_awake.f k2).bind fun t243 => (some t243)) else (none)) = some r := H
                  have A10 := Aside0.mk A100
                  clear A100
                  by_cases c11 : (t240 == 1 && (t241 == (wrap64 ((x7_1.size : Int) + (Go.bits .and .i64 a0 511))))) = true
                  · rw [if_pos c11] at H
                    have c11b0 : (t240 == 1 && (t241 == (wrap64 ((x7_1.size : Int) + (Go.bits .and .i64 a0 511))))) = true := c11
                    (try (have c11b1 : decide (t240 = 1 && (t241 == (wrap64 ((x7_1.size : Int) + (Go.bits .and .i64 a0 511))))) = true := by simpa using c11))
                    (try (have c11b2 : (t240 == 1 && (t241 == (wrap64 ((x7_1.size : Int) + (Go.bits .and .i64 a0 511))))) = true := by simpa using c11))
                    clear c11
                    replace H := Option.bind_eq_some_iff.mp H
                    obtain ⟨t243, A120, H⟩ := H
                    replace H : (some t243) = some r := H
                    have A12 := Aside0.mk A120
                    clear A120
                    obtain rfl := Option.some.inj H
                    go_wp2_with (first | ((with_reducible refine gate_dst (N := 39) rfl ?_); (try (refine gate_guard (by rfl) ?_; dsimp only)); refine XW.V_bytes _ 5 rfl (N := 39) rfl 9 29 _ rfl (x7_2 ++ (⟨#[9, 44, 99, 10]⟩ : ByteArray)) rfl Try.underlying9 Try.underlying29 Try.underlying5 (by have h_ : x7_2.size + 4 ≤ 9223372036854775807 := of_decide_eq_true (by first | (with_reducible assumption) | assumption); first | exact h_ | (simp only [ByteArray.size_append]; exact h_)) (ok := (fun _ => True)) (fun k_ hk => trivial) (Below.refl _ _) (Nat.le_refl _) ?_; intro v235 w13 ho14 hb hg_ hnew_; clear hg_ hnew_; (first | rw [← Ny234.out] at ho14 | (simp only [Int.reduceToNat] at ho14; rw [← Ny234.out] at ho14)); have n0_ := Aside0.mk (Kd.V_lower ho14 (below_size (by repeat (first | (with_reducible first | exact HB.out | apply below_alloc | apply pw_below_drewN | apply below_drew1) | exact HB.out)))); have n1_ := Aside0.mk (below_step (by repeat (first | (with_reducible first | exact HB.out | apply below_alloc | apply pw_below_drewN | apply below_drew1) | exact HB.out)) hb); clear HB; have HO236 := n0_; have HB := n1_; clear n0_ n1_; clear hb ho14; obtain ⟨Ao15, co15, eo15⟩ := Kd.V_slice HO236.out; subst eo15) | ((with_reducible refine gate_callee (f := 21) rfl ?_); refine goesL_ (some 40) rfl rfl Try.func21 (by kernel_rfl) rfl #[.slice Ao15 y234.length co15] rfl (by (try simp only [List.map_toArray, List.map_cons, List.map_nil]); first | done | rfl | (simp only [List.length_drop, List.length_take]; rfl)) ?_; (with_reducible refine (dnsl_Parse.calls k2 _ _ y234 t237 t240 t241 _ ?side1 ?side2 A10.out).mono ?_); (case side1 => repeat (first | exact (Kd.V_reads' HO236.out).2.2 | (with_reducible refine Kd.C_alloc ?_ _) | (with_reducible refine Kd.C_drewN ?_ _) | (with_reducible refine Kd.C_drew ?_))); (case side2 => exact (Kd.V_reads' HO236.out).2.1); rintro e w16 ⟨v238, rfl, ho0, hb⟩; refine ⟨_, rfl, ?_⟩; have n0_ := Aside0.mk (Kd.V_elder' (by (with_reducible repeat (first | apply Kd.V_alloc | apply Kd.V_drewN | apply Kd.V_drew)); exact HO236.out) (Kd.S_base ho0) hb); have n1_ := Aside0.mk (Kd.S_lower ho0 (below_size (by repeat (first | (with_reducible first | exact HB.out | apply below_alloc | apply pw_below_drewN | apply below_drew1) | exact HB.out)))); have n2_ := Aside0.mk (below_step (by repeat (first | (with_reducible first | exact HB.out | apply below_alloc | apply pw_below_drewN | apply below_drew1) | exact HB.out)) hb); clear HO236; clear HB; have HO236 := n0_; have HO239 := n1_; have HB := n2_; clear n0_ n1_ n2_; (try clear hb); (try clear hb2); (try clear hk); (try clear hi); (try clear ho0)) | ((with_reducible refine gate_dst (N := 12) rfl ?_); (try (refine gate_guard (by rfl) ?_; dsimp only)); refine box_event ?hg (N := 12) ?hd (cs := #[.int .i64 0, .int .i64 0]) (t := 26) ?hr ?_; (case hd => rfl); (case hg => rfl); (case hr => first | (go_simp; done) | (go_simp; rfl)); intro gb242 hg w17 hbox hb; have n0_ := Aside0.mk (Kd.V_below (Kd.V_elderB (by (with_reducible repeat (first | apply Kd.V_alloc | apply Kd.V_drewN | apply Kd.V_drew)); exact HO236.out) gb242 (Nat.le_of_eq hg.symm)) hb); have n1_ := Aside0.mk (Kd.S_below (by (with_reducible repeat (first | apply Kd.S_alloc | apply Kd.S_drewN | apply Kd.S_drew)); exact HO239.out) hb); have n2_ := Aside0.mk (below_step (by repeat (first | (with_reducible first | exact HB.out | apply below_alloc | apply pw_below_drewN | apply below_drew1) | exact HB.out)) hb); have n3_ := Aside0.mk (hbox); have n4_ := Aside0.mk ((by rw [hg]; exact (below_size (by repeat (first | (with_reducible first | exact HB.out | apply below_alloc | apply pw_below_drewN | apply below_drew1) | exact HB.out))) : w.heap.size ≤ gb242)); have n5_ := Aside0.mk ((by rw [hg]; exact (below_size (by repeat (first | (with_reducible first | exact HB.out | apply below_alloc | apply pw_below_drewN | apply below_drew1) | exact HB.out))) : w.heap.size ≤ gb242)); clear HO236; clear HO239; clear HB; have HO236 := n0_; have HO239 := n1_; have HB := n2_; have BK242 := n3_; have GW242 := n4_; have GE242 := n5_; clear n0_ n1_ n2_ n3_ n4_ n5_; clear hb hbox hg; have hcz18_0 : w17.cell? ⟨gb242, 0, none⟩ = some (.int .i64 0) := (blk_cell BK242.out 0).trans rfl; have hcz18_1 : w17.cell? ⟨gb242, 1, none⟩ = some (.int .i64 0) := (blk_cell BK242.out 1).trans rfl; have hfz18_0 := blk_frozen BK242.out 0; have hfz18_1 := blk_frozen BK242.out 1) | (go_at_call 22; (with_reducible refine (glebelaw10_awake.calls k2  t243 _ A12.out).mono ?_); rintro e w19 ⟨rfl, hb⟩; have n0_ := Aside0.mk (Kd.V_below (by (with_reducible repeat (first | apply Kd.V_alloc | apply Kd.V_drewN | apply Kd.V_drew)); exact (Kd.V_mono (Kd.V_far (p := ⟨gb242, 1, none⟩) (Kd.V_far (p := ⟨gb242, 0, none⟩) (Kd.V_mono HO236.out (fun k_ hk => (⟨hk, hk.2⟩ : _ ∧ k_ ≠ gb242))) (fun _ hk => hk.2) (.int .i64 t240)) (fun _ hk => hk.2) (.int .i64 t241)) (fun _ h_ => h_.1))) hb); have n1_ := Aside0.mk (Kd.S_below (by (with_reducible repeat (first | apply Kd.S_alloc | apply Kd.S_drewN | apply Kd.S_drew)); exact (Kd.S_mono (Kd.S_far (p := ⟨gb242, 1, none⟩) (Kd.S_far (p := ⟨gb242, 0, none⟩) (Kd.S_types HO239.out BK242.out (by decide)) (fun _ hk => hk.2) (.int .i64 t240)) (fun _ hk => hk.2) (.int .i64 t241)) (fun _ h_ => h_.1))) hb); have n2_ := Aside0.mk (blk_below (g := gb242) (o := .cells #[.int .i64 t240, .int .i64 t241] 26 (0, 0)) (by (with_reducible repeat (first | refine blk_drewN ?_ _ | refine blk_drew ?_ | refine blk_alloc ?_ _)); refine blk_put (cs := #[.int .i64 t240, .int .i64 0]) ?_ 1 _ rfl; (with_reducible repeat (first | refine blk_drewN ?_ _ | refine blk_drew ?_ | refine blk_alloc ?_ _)); refine blk_put (cs := #[.int .i64 0, .int .i64 0]) ?_ 0 _ rfl; (with_reducible repeat (first | refine blk_drewN ?_ _ | refine blk_drew ?_ | refine blk_alloc ?_ _)); exact BK242.out) hb); have n3_ := Aside0.mk (below_step (by repeat (first | (with_reducible first | exact HB.out | apply below_alloc | apply pw_below_drewN | apply below_drew1 | refine below_set ?_ GE242.out) | exact HB.out)) hb); clear HO236; clear HO239; clear BK242; clear HB; have HO236 := n0_; have HO239 := n1_; have BK242 := n2_; have HB := n3_; clear n0_ n1_ n2_ n3_; (try clear hb); (try clear hb2); (try clear hk); (try clear hi)))
                    go_ret
                    exact ⟨by first | rfl | (simp [errW_none, errW_some] <;> rfl) | (simp [*, errW_none, errW_some] <;> rfl), by repeat (first | (with_reducible first | exact HB.out | apply below_alloc | apply pw_below_drewN | apply below_drew1 | refine below_set ?_ GE242.out) | exact HB.out)⟩
                  · rw [if_neg c11] at H
                    exact absurd H (by simp)
                · rw [if_neg c9] at H
                  exact absurd H (by simp)
              · replace c8 := Bool.eq_false_iff.mpr c8
                subst c8
                have H1 : (if x7_2.size + 3 ≤ 9223372036854775807 then ((dnsl_Parse.f k2 (bytesOf (x7_2 ++ (⟨#[44, 99, 10]⟩ : ByteArray)))).bind fun bt247 => (if (Go.bits .and .i64 a0 511) > 255 then (if (bt247.2.1 == 2 && (bt247.2.2 == (x7_1.size : Int))) = true then (if (bt247.1.length : Int) = 0 then ((glebelaw10_awake.f k2).bind fun t253 => (some t253)) else (none)) else (none)) else (if (bt247.2.1 == 0 && (bt247.2.2 == 0)) = true then (if (bt247.1.length : Int) = 1 then (if 0 < (bt247.1.length : Int) then (if (((rd_T47 bt247.1 0).f1).length : Int) = (wrap64 ((Go.bits .and .i64 a1 7) + 2)) then (if 0 ≤ (Go.bits .and .i64 a1 7) then (if (Go.bits .and .i64 a1 7) < (((rd_T47 bt247.1 0).f1).length : Int) then (if ((rd_T33 ((rd_T47 bt247.1 0).f1) (Go.bits .and .i64 a1 7)).f2) = (x7_1.size : Int) then (if (((rd_T33 ((rd_T47 bt247.1 0).f1) (Go.bits .and .i64 a1 7)).f1).size : Int) = (Go.bits .and .i64 a0 511) then ((glebelaw10_awake.f k2).bind fun t259 => (some t259)) else (none)) else (none)) else (none)) else (none)) else (none)) else (none)) else (none)) else (none)))) else (none)) = some r := by rw [if_neg (show ¬ (false = true) by decide)] at H; exact H
                clear H
                have H := H1
                clear H1
                by_cases c20 : x7_2.size + 3 ≤ 9223372036854775807
                · rw [if_pos c20] at H
                  have c20b0 := eq_true c20
                  have c20b1 : decide (x7_2.size + 3 ≤ 9223372036854775807) = true := decide_eq_true c20
                  try have c20b2 : (9223372036854775807 < x7_2.size + 3) = False := eq_false (Nat.not_lt.2 c20)
                  obtain ⟨y244, hy244⟩ : ∃ y_ : List Int, y_ = (bytesOf (x7_2 ++ (⟨#[44, 99, 10]⟩ : ByteArray))) := ⟨_, rfl⟩
                  replace H : ((dnsl_Parse.f k2 y244).bind fun bt247 => (if (Go.bits .and .i64 a0 511) > 255 then (if (bt247.2.1 == 2 && (bt247.2.2 == (x7_1.size : Int))) = true then (if (bt247.1.length : Int) = 0 then ((glebelaw10_awake.f k2).bind fun t253 => (some t253)) else (none)) else (none)) else (if (bt247.2.1 == 0 && (bt247.2.2 == 0)) = true then (if (bt247.1.length : Int) = 1 then (if 0 < (bt247.1.length : Int) then (if (((rd_T47 bt247.1 0).f1).length : Int) = (wrap64 ((Go.bits .and .i64 a1 7) + 2)) then (if 0 ≤ (Go.bits .and .i64 a1 7) then (if (Go.bits .and .i64 a1 7) < (((rd_T47 bt247.1 0).f1).length : Int) then (if ((rd_T33 ((rd_T47 bt247.1 0).f1) (Go.bits .and .i64 a1 7)).f2) = (x7_1.size : Int) then (if (((rd_T33 ((rd_T47 bt247.1 0).f1) (Go.bits .and .i64 a1 7)).f1).size : Int) = (Go.bits .and .i64 a0 511) then ((glebelaw10_awake.f k2).bind fun t259 => (some t259)) else (none)) else (none)) else (none)) else (none)) else (none)) else (none)) else (none)) else (none)))) = some r := by first | (rw [hy244]; with_reducible exact H) | (have H2_ := (Option.bind_some _ _).symm.trans H; rw [hy244]; with_reducible exact H2_) | (have H2_ := (Option.bind_some _ _).symm.trans H; with_reducible exact H2_) | with_reducible exact H | (rw [hy244]; exact H) | exact H
                  have Ny244 := Aside0.mk hy244
                  clear hy244
                  replace H := Option.bind_eq_some_iff.mp H
                  obtain ⟨⟨t247, t250, t251⟩, A210, H⟩ := H
                  replace H : (if (Go.bits .and .i64 a0 511) > 255 then (if (t250 == 2 && (t251 == (x7_1.size : Int))) = true then (if (t247.length : Int) = 0 then ((glebelaw10_awake.f k2).bind fun t253 => (some t253)) else (none)) else (none)) else (if (t250 == 0 && (t251 == 0)) = true then (if (t247.length : Int) = 1 then (if 0 < (t247.length : Int) then (if (((rd_T47 t247 0).f1).length : Int) = (wrap64 ((Go.bits .and .i64 a1 7) + 2)) then (if 0 ≤ (Go.bits .and .i64 a1 7) then (if (Go.bits .and .i64 a1 7) < (((rd_T47 t247 0).f1).length : Int) then (if ((rd_T33 ((rd_T47 t247 0).f1) (Go.bits .and .i64 a1 7)).f2) = (x7_1.size : Int) then (if (((rd_T33 ((rd_T47 t247 0).f1) (Go.bits .and .i64 a1 7)).f1).size : Int) = (Go.bits .and .i64 a0 511) then ((glebelaw10_awake.f k2).bind fun t259 => (some t259)) else (none)) else (none)) else (none)) else (none)) else (none)) else (none)) else (none)) else (none))) = some r := H
                  have A21 := Aside0.mk A210
                  clear A210
                  by_cases c22 : (Go.bits .and .i64 a0 511) > 255
                  · rw [if_pos c22] at H
                    have c22b0 : decide (255 < (Go.bits .and .i64 a0 511)) = true := decide_eq_true c22
                    clear c22
                    by_cases c23 : (t250 == 2 && (t251 == (x7_1.size : Int))) = true
                    · rw [if_pos c23] at H
                      have c23b0 : (t250 == 2 && (t251 == (x7_1.size : Int))) = true := c23
                      (try (have c23b1 : decide (t250 = 2 && (t251 == (x7_1.size : Int))) = true := by simpa using c23))
                      (try (have c23b2 : (t250 == 2 && (t251 == (x7_1.size : Int))) = true := by simpa using c23))
                      clear c23
                      by_cases c24 : (t247.length : Int) = 0
                      · rw [if_pos c24] at H
                        have c24b0 : ((t247.length : Int) == 0) = true := beq_iff_eq.mpr c24
                        have c24b1 : ((t247.length : Int) != 0) = false := bne_eq_false_iff_eq.mpr c24
                        clear c24
                        replace H := Option.bind_eq_some_iff.mp H
                        obtain ⟨t253, A250, H⟩ := H
                        replace H : (some t253) = some r := H
                        have A25 := Aside0.mk A250
                        clear A250
                        obtain rfl := Option.some.inj H
                        go_wp2_with (first | ((with_reducible refine gate_dst (N := 55) rfl ?_); (try (refine gate_guard (by rfl) ?_; dsimp only)); refine XW.V_bytes _ 5 rfl (N := 55) rfl 9 29 _ rfl (x7_2 ++ (⟨#[44, 99, 10]⟩ : ByteArray)) rfl Try.underlying9 Try.underlying29 Try.underlying5 (by have h_ : x7_2.size + 3 ≤ 9223372036854775807 := of_decide_eq_true (by first | (with_reducible assumption) | assumption); first | exact h_ | (simp only [ByteArray.size_append]; exact h_)) (ok := (fun _ => True)) (fun k_ hk => trivial) (Below.refl _ _) (Nat.le_refl _) ?_; intro v245 w26 ho27 hb hg_ hnew_; clear hg_ hnew_; (first | rw [← Ny244.out] at ho27 | (simp only [Int.reduceToNat] at ho27; rw [← Ny244.out] at ho27)); have n0_ := Aside0.mk (Kd.V_lower ho27 (below_size (by repeat (first | (with_reducible first | exact HB.out | apply below_alloc | apply pw_below_drewN | apply below_drew1) | exact HB.out)))); have n1_ := Aside0.mk (below_step (by repeat (first | (with_reducible first | exact HB.out | apply below_alloc | apply pw_below_drewN | apply below_drew1) | exact HB.out)) hb); clear HB; have HO246 := n0_; have HB := n1_; clear n0_ n1_; clear hb ho27; obtain ⟨Ao28, co28, eo28⟩ := Kd.V_slice HO246.out; subst eo28) | ((with_reducible refine gate_callee (f := 21) rfl ?_); refine goesL_ (some 56) rfl rfl Try.func21 (by kernel_rfl) rfl #[.slice Ao28 y244.length co28] rfl (by (try simp only [List.map_toArray, List.map_cons, List.map_nil]); first | done | rfl | (simp only [List.length_drop, List.length_take]; rfl)) ?_; (with_reducible refine (dnsl_Parse.calls k2 _ _ y244 t247 t250 t251 _ ?side1 ?side2 A21.out).mono ?_); (case side1 => repeat (first | exact (Kd.V_reads' HO246.out).2.2 | (with_reducible refine Kd.C_alloc ?_ _) | (with_reducible refine Kd.C_drewN ?_ _) | (with_reducible refine Kd.C_drew ?_))); (case side2 => exact (Kd.V_reads' HO246.out).2.1); rintro e w29 ⟨v248, rfl, ho0, hb⟩; refine ⟨_, rfl, ?_⟩; have n0_ := Aside0.mk (Kd.V_elder' (by (with_reducible repeat (first | apply Kd.V_alloc | apply Kd.V_drewN | apply Kd.V_drew)); exact HO246.out) (Kd.S_base ho0) hb); have n1_ := Aside0.mk (Kd.S_lower ho0 (below_size (by repeat (first | (with_reducible first | exact HB.out | apply below_alloc | apply pw_below_drewN | apply below_drew1) | exact HB.out)))); have n2_ := Aside0.mk (below_step (by repeat (first | (with_reducible first | exact HB.out | apply below_alloc | apply pw_below_drewN | apply below_drew1) | exact HB.out)) hb); clear HO246; clear HB; have HO246 := n0_; have HO249 := n1_; have HB := n2_; clear n0_ n1_ n2_; (try clear hb); (try clear hb2); (try clear hk); (try clear hi); (try clear ho0)) | ((with_reducible refine gate_dst (N := 14) rfl ?_); (try (refine gate_guard (by rfl) ?_; dsimp only)); refine box_event ?hg (N := 14) ?hd (cs := #[.int .i64 0, .int .i64 0]) (t := 26) ?hr ?_; (case hd => rfl); (case hg => rfl); (case hr => first | (go_simp; done) | (go_simp; rfl)); intro gb252 hg w30 hbox hb; have n0_ := Aside0.mk (Kd.V_below (Kd.V_elderB (by (with_reducible repeat (first | apply Kd.V_alloc | apply Kd.V_drewN | apply Kd.V_drew)); exact HO246.out) gb252 (Nat.le_of_eq hg.symm)) hb); have n1_ := Aside0.mk (Kd.S_below (by (with_reducible repeat (first | apply Kd.S_alloc | apply Kd.S_drewN | apply Kd.S_drew)); exact HO249.out) hb); have n2_ := Aside0.mk (below_step (by repeat (first | (with_reducible first | exact HB.out | apply below_alloc | apply pw_below_drewN | apply below_drew1) | exact HB.out)) hb); have n3_ := Aside0.mk (hbox); have n4_ := Aside0.mk ((by rw [hg]; exact (below_size (by repeat (first | (with_reducible first | exact HB.out | apply below_alloc | apply pw_below_drewN | apply below_drew1) | exact HB.out))) : w.heap.size ≤ gb252)); have n5_ := Aside0.mk ((by rw [hg]; exact (below_size (by repeat (first | (with_reducible first | exact HB.out | apply below_alloc | apply pw_below_drewN | apply below_drew1) | exact HB.out))) : w.heap.size ≤ gb252)); clear HO246; clear HO249; clear HB; have HO246 := n0_; have HO249 := n1_; have HB := n2_; have BK252 := n3_; have GW252 := n4_; have GE252 := n5_; clear n0_ n1_ n2_ n3_ n4_ n5_; clear hb hbox hg; have hcz31_0 : w30.cell? ⟨gb252, 0, none⟩ = some (.int .i64 0) := (blk_cell BK252.out 0).trans rfl; have hcz31_1 : w30.cell? ⟨gb252, 1, none⟩ = some (.int .i64 0) := (blk_cell BK252.out 1).trans rfl; have hfz31_0 := blk_frozen BK252.out 0; have hfz31_1 := blk_frozen BK252.out 1; obtain ⟨Ao32, co32, eo32⟩ := Kd.S_slice HO249.out; subst eo32) | (go_at_call 22; (with_reducible refine (glebelaw10_awake.calls k2  t253 _ A25.out).mono ?_); rintro e w33 ⟨rfl, hb⟩; have n0_ := Aside0.mk (Kd.V_below (by (with_reducible repeat (first | apply Kd.V_alloc | apply Kd.V_drewN | apply Kd.V_drew)); exact (Kd.V_mono (Kd.V_far (p := ⟨gb252, 1, none⟩) (Kd.V_far (p := ⟨gb252, 0, none⟩) (Kd.V_mono HO246.out (fun k_ hk => (⟨hk, hk.2⟩ : _ ∧ k_ ≠ gb252))) (fun _ hk => hk.2) (.int .i64 t250)) (fun _ hk => hk.2) (.int .i64 t251)) (fun _ h_ => h_.1))) hb); have n1_ := Aside0.mk (Kd.S_below (by (with_reducible repeat (first | apply Kd.S_alloc | apply Kd.S_drewN | apply Kd.S_drew)); exact (Kd.S_mono (Kd.S_far (p := ⟨gb252, 1, none⟩) (Kd.S_far (p := ⟨gb252, 0, none⟩) (Kd.S_types HO249.out BK252.out (by decide)) (fun _ hk => hk.2) (.int .i64 t250)) (fun _ hk => hk.2) (.int .i64 t251)) (fun _ h_ => h_.1))) hb); have n2_ := Aside0.mk (blk_below (g := gb252) (o := .cells #[.int .i64 t250, .int .i64 t251] 26 (0, 0)) (by (with_reducible repeat (first | refine blk_drewN ?_ _ | refine blk_drew ?_ | refine blk_alloc ?_ _)); refine blk_put (cs := #[.int .i64 t250, .int .i64 0]) ?_ 1 _ rfl; (with_reducible repeat (first | refine blk_drewN ?_ _ | refine blk_drew ?_ | refine blk_alloc ?_ _)); refine blk_put (cs := #[.int .i64 0, .int .i64 0]) ?_ 0 _ rfl; (with_reducible repeat (first | refine blk_drewN ?_ _ | refine blk_drew ?_ | refine blk_alloc ?_ _)); exact BK252.out) hb); have n3_ := Aside0.mk (below_step (by repeat (first | (with_reducible first | exact HB.out | apply below_alloc | apply pw_below_drewN | apply below_drew1 | refine below_set ?_ GE252.out) | exact HB.out)) hb); clear HO246; clear HO249; clear BK252; clear HB; have HO246 := n0_; have HO249 := n1_; have BK252 := n2_; have HB := n3_; clear n0_ n1_ n2_ n3_; (try clear hb); (try clear hb2); (try clear hk); (try clear hi)))
                        go_ret
                        exact ⟨by first | rfl | (simp [errW_none, errW_some] <;> rfl) | (simp [*, errW_none, errW_some] <;> rfl), by repeat (first | (with_reducible first | exact HB.out | apply below_alloc | apply pw_below_drewN | apply below_drew1 | refine below_set ?_ GE252.out) | exact HB.out)⟩
                      · rw [if_neg c24] at H
                        exact absurd H (by simp)
                    · rw [if_neg c23] at H
                      exact absurd H (by simp)
                  · rw [if_neg c22] at H
                    have c22b0 : decide (255 < (Go.bits .and .i64 a0 511)) = false := decide_eq_false c22
                    clear c22
                    by_cases c34 : (t250 == 0 && (t251 == 0)) = true
                    · rw [if_pos c34] at H
                      have c34b0 : (t250 == 0 && (t251 == 0)) = true := c34
                      (try (have c34b1 : decide (t250 = 0 && (t251 == 0)) = true := by simpa using c34))
                      (try (have c34b2 : (t250 == 0 && (t251 == 0)) = true := by simpa using c34))
                      clear c34
                      by_cases c35 : (t247.length : Int) = 1
                      · rw [if_pos c35] at H
                        have c35b0 : ((t247.length : Int) == 1) = true := beq_iff_eq.mpr c35
                        have c35b1 : ((t247.length : Int) != 1) = false := bne_eq_false_iff_eq.mpr c35
                        clear c35
                        by_cases c36 : 0 < (t247.length : Int)
                        · rw [if_pos c36] at H
                          have c36b0 : decide (0 < (t247.length : Int)) = true := decide_eq_true c36
                          have c36b1 : decide (0 < t247.length) = true := decide_eq_true (by omega)
                          clear c36
                          by_cases c37 : (((rd_T47 t247 0).f1).length : Int) = (wrap64 ((Go.bits .and .i64 a1 7) + 2))
                          · rw [if_pos c37] at H
                            have c37b0 : ((((rd_T47 t247 0).f1).length : Int) == (wrap64 ((Go.bits .and .i64 a1 7) + 2))) = true := beq_iff_eq.mpr c37
                            have c37b1 : ((((rd_T47 t247 0).f1).length : Int) != (wrap64 ((Go.bits .and .i64 a1 7) + 2))) = false := bne_eq_false_iff_eq.mpr c37
                            clear c37
                            by_cases c38 : 0 ≤ (Go.bits .and .i64 a1 7)
                            · rw [if_pos c38] at H
                              have c38b0 : decide (0 ≤ (Go.bits .and .i64 a1 7)) = true := decide_eq_true c38
                              clear c38
                              by_cases c39 : (Go.bits .and .i64 a1 7) < (((rd_T47 t247 0).f1).length : Int)
                              · rw [if_pos c39] at H
                                have c39b0 : decide ((Go.bits .and .i64 a1 7) < (((rd_T47 t247 0).f1).length : Int)) = true := decide_eq_true c39
                                clear c39
                                by_cases c40 : ((rd_T33 ((rd_T47 t247 0).f1) (Go.bits .and .i64 a1 7)).f2) = (x7_1.size : Int)
                                · rw [if_pos c40] at H
                                  have c40b0 : (((rd_T33 ((rd_T47 t247 0).f1) (Go.bits .and .i64 a1 7)).f2) == (x7_1.size : Int)) = true := beq_iff_eq.mpr c40
                                  have c40b1 : (((rd_T33 ((rd_T47 t247 0).f1) (Go.bits .and .i64 a1 7)).f2) != (x7_1.size : Int)) = false := bne_eq_false_iff_eq.mpr c40
                                  clear c40
                                  by_cases c41 : (((rd_T33 ((rd_T47 t247 0).f1) (Go.bits .and .i64 a1 7)).f1).size : Int) = (Go.bits .and .i64 a0 511)
                                  · rw [if_pos c41] at H
                                    have c41b0 : ((((rd_T33 ((rd_T47 t247 0).f1) (Go.bits .and .i64 a1 7)).f1).size : Int) == (Go.bits .and .i64 a0 511)) = true := beq_iff_eq.mpr c41
                                    have c41b1 : ((((rd_T33 ((rd_T47 t247 0).f1) (Go.bits .and .i64 a1 7)).f1).size : Int) != (Go.bits .and .i64 a0 511)) = false := bne_eq_false_iff_eq.mpr c41
                                    clear c41
                                    replace H := Option.bind_eq_some_iff.mp H
                                    obtain ⟨t259, A420, H⟩ := H
                                    replace H : (some t259) = some r := H
                                    have A42 := Aside0.mk A420
                                    clear A420
                                    obtain rfl := Option.some.inj H
                                    go_wp2_with (first | ((with_reducible refine gate_dst (N := 55) rfl ?_); (try (refine gate_guard (by rfl) ?_; dsimp only)); refine XW.V_bytes _ 5 rfl (N := 55) rfl 9 29 _ rfl (x7_2 ++ (⟨#[44, 99, 10]⟩ : ByteArray)) rfl Try.underlying9 Try.underlying29 Try.underlying5 (by have h_ : x7_2.size + 3 ≤ 9223372036854775807 := of_decide_eq_true (by first | (with_reducible assumption) | assumption); first | exact h_ | (simp only [ByteArray.size_append]; exact h_)) (ok := (fun _ => True)) (fun k_ hk => trivial) (Below.refl _ _) (Nat.le_refl _) ?_; intro v245 w43 ho44 hb hg_ hnew_; clear hg_ hnew_; (first | rw [← Ny244.out] at ho44 | (simp only [Int.reduceToNat] at ho44; rw [← Ny244.out] at ho44)); have n0_ := Aside0.mk (Kd.V_lower ho44 (below_size (by repeat (first | (with_reducible first | exact HB.out | apply below_alloc | apply pw_below_drewN | apply below_drew1) | exact HB.out)))); have n1_ := Aside0.mk (below_step (by repeat (first | (with_reducible first | exact HB.out | apply below_alloc | apply pw_below_drewN | apply below_drew1) | exact HB.out)) hb); clear HB; have HO246 := n0_; have HB := n1_; clear n0_ n1_; clear hb ho44; obtain ⟨Ao45, co45, eo45⟩ := Kd.V_slice HO246.out; subst eo45) | ((with_reducible refine gate_callee (f := 21) rfl ?_); refine goesL_ (some 56) rfl rfl Try.func21 (by kernel_rfl) rfl #[.slice Ao45 y244.length co45] rfl (by (try simp only [List.map_toArray, List.map_cons, List.map_nil]); first | done | rfl | (simp only [List.length_drop, List.length_take]; rfl)) ?_; (with_reducible refine (dnsl_Parse.calls k2 _ _ y244 t247 t250 t251 _ ?side1 ?side2 A21.out).mono ?_); (case side1 => repeat (first | exact (Kd.V_reads' HO246.out).2.2 | (with_reducible refine Kd.C_alloc ?_ _) | (with_reducible refine Kd.C_drewN ?_ _) | (with_reducible refine Kd.C_drew ?_))); (case side2 => exact (Kd.V_reads' HO246.out).2.1); rintro e w46 ⟨v248, rfl, ho0, hb⟩; refine ⟨_, rfl, ?_⟩; have n0_ := Aside0.mk (Kd.V_elder' (by (with_reducible repeat (first | apply Kd.V_alloc | apply Kd.V_drewN | apply Kd.V_drew)); exact HO246.out) (Kd.S_base ho0) hb); have n1_ := Aside0.mk (Kd.S_lower ho0 (below_size (by repeat (first | (with_reducible first | exact HB.out | apply below_alloc | apply pw_below_drewN | apply below_drew1) | exact HB.out)))); have n2_ := Aside0.mk (below_step (by repeat (first | (with_reducible first | exact HB.out | apply below_alloc | apply pw_below_drewN | apply below_drew1) | exact HB.out)) hb); clear HO246; clear HB; have HO246 := n0_; have HO249 := n1_; have HB := n2_; clear n0_ n1_ n2_; (try clear hb); (try clear hb2); (try clear hk); (try clear hi); (try clear ho0)) | ((with_reducible refine gate_dst (N := 14) rfl ?_); (try (refine gate_guard (by rfl) ?_; dsimp only)); refine box_event ?hg (N := 14) ?hd (cs := #[.int .i64 0, .int .i64 0]) (t := 26) ?hr ?_; (case hd => rfl); (case hg => rfl); (case hr => first | (go_simp; done) | (go_simp; rfl)); intro gb252 hg w47 hbox hb; have n0_ := Aside0.mk (Kd.V_below (Kd.V_elderB (by (with_reducible repeat (first | apply Kd.V_alloc | apply Kd.V_drewN | apply Kd.V_drew)); exact HO246.out) gb252 (Nat.le_of_eq hg.symm)) hb); have n1_ := Aside0.mk (Kd.S_below (by (with_reducible repeat (first | apply Kd.S_alloc | apply Kd.S_drewN | apply Kd.S_drew)); exact HO249.out) hb); have n2_ := Aside0.mk (below_step (by repeat (first | (with_reducible first | exact HB.out | apply below_alloc | apply pw_below_drewN | apply below_drew1) | exact HB.out)) hb); have n3_ := Aside0.mk (hbox); have n4_ := Aside0.mk ((by rw [hg]; exact (below_size (by repeat (first | (with_reducible first | exact HB.out | apply below_alloc | apply pw_below_drewN | apply below_drew1) | exact HB.out))) : w.heap.size ≤ gb252)); have n5_ := Aside0.mk ((by rw [hg]; exact (below_size (by repeat (first | (with_reducible first | exact HB.out | apply below_alloc | apply pw_below_drewN | apply below_drew1) | exact HB.out))) : w.heap.size ≤ gb252)); clear HO246; clear HO249; clear HB; have HO246 := n0_; have HO249 := n1_; have HB := n2_; have BK252 := n3_; have GW252 := n4_; have GE252 := n5_; clear n0_ n1_ n2_ n3_ n4_ n5_; clear hb hbox hg; have hcz48_0 : w47.cell? ⟨gb252, 0, none⟩ = some (.int .i64 0) := (blk_cell BK252.out 0).trans rfl; have hcz48_1 : w47.cell? ⟨gb252, 1, none⟩ = some (.int .i64 0) := (blk_cell BK252.out 1).trans rfl; have hfz48_0 := blk_frozen BK252.out 0; have hfz48_1 := blk_frozen BK252.out 1) | ((with_reducible refine gate_store (t := 26) (p := 14) rfl ?_); refine store_event (t := 26) (p := 14) (v := ?vo_w49) (w1 := ((w47.setCell ⟨gb252, 0, none⟩ (.int .i64 t250)).setCell ⟨gb252, 1, none⟩ (.int .i64 t251))) ?hg ?ho ?hn ?hr ?_; (case ho => rfl); (case hg => rfl); (case hn => rfl); (case hr => first | (go_simp; done) | (go_simp; rfl)); intro w49 hw; have n0_ : Aside0 (Kd.V (Kd.int .u8) 5 w49 w.heap.size (fun k_ => some k_ ≠ (v248 : Value).ownBlock ∧ k_ ≠ gb252) (.slice Ao45 y244.length co45) y244) := ⟨(by rw [hw]; exact (by (with_reducible repeat (first | apply Kd.V_alloc | apply Kd.V_drewN | apply Kd.V_drew)); exact Kd.V_mono (Kd.V_far (p := ⟨gb252, 1, none⟩) (Kd.V_far (p := ⟨gb252, 0, none⟩) (Kd.V_mono HO246.out (fun k_ hk => (⟨hk, hk.2⟩ : _ ∧ k_ ≠ gb252))) (fun _ hk => hk.2) (.int .i64 t250)) (fun _ hk => hk.2) (.int .i64 t251)) (fun _ hk => ⟨hk.1.1.2, hk.1.2⟩)))⟩; have n1_ : Aside0 (Kd.S k47 47 w49 w.heap.size (fun _ => True) v248 t247) := ⟨(by rw [hw]; exact (by (with_reducible repeat (first | apply Kd.S_alloc | apply Kd.S_drewN | apply Kd.S_drew)); exact Kd.S_mono (Kd.S_far (p := ⟨gb252, 1, none⟩) (Kd.S_far (p := ⟨gb252, 0, none⟩) (Kd.S_types HO249.out BK252.out (by decide)) (fun _ hk => hk.2) (.int .i64 t250)) (fun _ hk => hk.2) (.int .i64 t251)) (fun _ hk => trivial)))⟩; have n2_ : Aside0 (w49.heap[gb252]? = some (.cells #[.int .i64 t250, .int .i64 t251] 26 (0, 0))) := ⟨(by rw [hw]; exact (by (with_reducible repeat (first | refine blk_drewN ?_ _ | refine blk_drew ?_ | refine blk_alloc ?_ _)); refine blk_put (cs := #[.int .i64 t250, .int .i64 0]) ?_ 1 _ rfl; (with_reducible repeat (first | refine blk_drewN ?_ _ | refine blk_drew ?_ | refine blk_alloc ?_ _)); refine blk_put (cs := #[.int .i64 0, .int .i64 0]) ?_ 0 _ rfl; (with_reducible repeat (first | refine blk_drewN ?_ _ | refine blk_drew ?_ | refine blk_alloc ?_ _)); exact BK252.out))⟩; have n3_ : Aside0 (Below w.heap.size w w49) := ⟨(by rw [hw]; exact (by repeat (first | (with_reducible first | exact HB.out | apply below_alloc | apply pw_below_drewN | apply below_drew1 | refine below_set ?_ GE252.out) | exact HB.out)))⟩; clear hw; clear HO246; clear HO249; clear BK252; clear HB; have HO246 := n0_; have HO249 := n1_; have BK252 := n2_; have HB := n3_; clear n0_ n1_ n2_ n3_; have hcz50_0 : w49.cell? ⟨gb252, 0, none⟩ = some (.int .i64 t250) := (blk_cell BK252.out 0).trans rfl; have hcz50_1 : w49.cell? ⟨gb252, 1, none⟩ = some (.int .i64 t251) := (blk_cell BK252.out 1).trans rfl; have hfz50_0 := blk_frozen BK252.out 0; have hfz50_1 := blk_frozen BK252.out 1; obtain ⟨Ao51, co51, eo51⟩ := Kd.S_slice HO249.out; subst eo51; have p254 : 0 ≤ (0 : Int) := (by omega); have q254 : 0 < (t247.length : Int) := of_decide_eq_true (by first | (with_reducible assumption) | assumption); obtain ⟨ad254, A254_1, c254_1, e254, hx254_0, hx254_1, hx254_2, hl254_1, hi254_1⟩ := at_T47 (Kd.S_reads' HO249.out).2.2 0 p254 q254; cases e254; obtain ⟨ce254, hce254, hMe254, hcc254⟩ := Kd.S_get HO249.out z47 0 p254 (by first | exact q254 | exact of_decide_eq_true (by first | (with_reducible assumption) | assumption) | (have e_ := (Kd.S_reads' HO249.out).1; omega)); obtain ⟨ve254_1, rfl, ge254_1⟩ := k47_openM hMe254; have hv254_1 := hcc254 1 _ rfl; rw [add_field _ _ 1 (by omega)] at hv254_1; replace hv254_1 := Option.some.inj (hv254_1.symm.trans hx254_1); rw [hv254_1] at ge254_1; have HL254_1 := Aside0.mk (show Kd.R k33 33 _ _ _ _ ((rd_T47 t247 0).f1) from ge254_1); clear hv254_1 ge254_1; clear hcc254 hce254; have qi254 : (0 < t247.length) = True := eq_true (by omega); (try rw [show ((0 : Int)).toNat = 0 from rfl] at hx254_0); (try rw [show 0 * 3 = 0 from rfl] at hx254_0); (try rw [Addr.add_zero'] at hx254_0); (try rw [show ((0 : Int)).toNat = 0 from rfl] at hx254_1); (try rw [show 0 * 3 = 0 from rfl] at hx254_1); (try rw [Addr.add_zero'] at hx254_1); (try rw [show ((0 : Int)).toNat = 0 from rfl] at hx254_2); (try rw [show 0 * 3 = 0 from rfl] at hx254_2); (try rw [Addr.add_zero'] at hx254_2); have HR254_1 := Aside0.mk hi254_1; have HC254_1 := Aside0.mk hl254_1; clear hi254_1 hl254_1; replace p254 := eq_true p254; replace q254 := eq_true q254; have p255 : 0 ≤ (0 : Int) := (by omega); have q255 : 0 < (t247.length : Int) := of_decide_eq_true (by first | (with_reducible assumption) | assumption); obtain ⟨ad255, A255_1, c255_1, e255, hx255_0, hx255_1, hx255_2, hl255_1, hi255_1⟩ := at_T47 (Kd.S_reads' HO249.out).2.2 0 p255 q255; obtain rfl : ad254 = ad255 := (by injection e255); obtain ⟨ce255, hce255, hMe255, hcc255⟩ := Kd.S_get HO249.out z47 0 p255 (by first | exact q255 | exact of_decide_eq_true (by first | (with_reducible assumption) | assumption) | (have e_ := (Kd.S_reads' HO249.out).1; omega)); obtain ⟨ve255_1, rfl, ge255_1⟩ := k47_openM hMe255; have hv255_1 := hcc255 1 _ rfl; rw [add_field _ _ 1 (by omega)] at hv255_1; replace hv255_1 := Option.some.inj (hv255_1.symm.trans hx255_1); rw [hv255_1] at ge255_1; have HL255_1 := Aside0.mk (show Kd.R k33 33 _ _ _ _ ((rd_T47 t247 0).f1) from ge255_1); clear hv255_1 ge255_1; clear hcc255 hce255; have qi255 : (0 < t247.length) = True := eq_true (by omega); (try rw [show ((0 : Int)).toNat = 0 from rfl] at hx255_0); (try rw [show 0 * 3 = 0 from rfl] at hx255_0); (try rw [Addr.add_zero'] at hx255_0); (try rw [show ((0 : Int)).toNat = 0 from rfl] at hx255_1); (try rw [show 0 * 3 = 0 from rfl] at hx255_1); (try rw [Addr.add_zero'] at hx255_1); (try rw [show ((0 : Int)).toNat = 0 from rfl] at hx255_2); (try rw [show 0 * 3 = 0 from rfl] at hx255_2); (try rw [Addr.add_zero'] at hx255_2); have HR255_1 := Aside0.mk hi255_1; have HC255_1 := Aside0.mk hl255_1; clear hi255_1 hl255_1; replace p255 := eq_true p255; replace q255 := eq_true q255; have ea_ := Option.some.inj (hx254_1.symm.trans hx255_1); injection ea_ with ea_ en_ ec_; subst ea_; subst ec_; clear en_; have p256 : 0 ≤ ((Go.bits .and .i64 a1 7) : Int) := of_decide_eq_true (by first | (with_reducible assumption) | assumption); have q256 : (Go.bits .and .i64 a1 7) < (((rd_T47 t247 0).f1).length : Int) := of_decide_eq_true (by first | (with_reducible assumption) | assumption); obtain ⟨ad256, e256, hx256_0, hx256_1, hx256_2⟩ := at_T33 (by repeat (first | (with_reducible exact HR255_1.out) | (with_reducible refine Kd.C_alloc ?_ _) | (with_reducible refine Kd.C_drewN ?_ _) | (with_reducible refine Kd.C_drew ?_) | exact HR255_1.out)) (Go.bits .and .i64 a1 7) p256 q256; cases e256; replace p256 := eq_true p256; replace q256 := eq_true q256; have p257 : 0 ≤ (0 : Int) := (by omega); have q257 : 0 < (t247.length : Int) := of_decide_eq_true (by first | (with_reducible assumption) | assumption); obtain ⟨ad257, A257_1, c257_1, e257, hx257_0, hx257_1, hx257_2, hl257_1, hi257_1⟩ := at_T47 (Kd.S_reads' HO249.out).2.2 0 p257 q257; obtain rfl : ad254 = ad257 := (by injection e257); obtain ⟨ce257, hce257, hMe257, hcc257⟩ := Kd.S_get HO249.out z47 0 p257 (by first | exact q257 | exact of_decide_eq_true (by first | (with_reducible assumption) | assumption) | (have e_ := (Kd.S_reads' HO249.out).1; omega)); obtain ⟨ve257_1, rfl, ge257_1⟩ := k47_openM hMe257; have hv257_1 := hcc257 1 _ rfl; rw [add_field _ _ 1 (by omega)] at hv257_1; replace hv257_1 := Option.some.inj (hv257_1.symm.trans hx257_1); rw [hv257_1] at ge257_1; have HL257_1 := Aside0.mk (show Kd.R k33 33 _ _ _ _ ((rd_T47 t247 0).f1) from ge257_1); clear hv257_1 ge257_1; clear hcc257 hce257; have qi257 : (0 < t247.length) = True := eq_true (by omega); (try rw [show ((0 : Int)).toNat = 0 from rfl] at hx257_0); (try rw [show 0 * 3 = 0 from rfl] at hx257_0); (try rw [Addr.add_zero'] at hx257_0); (try rw [show ((0 : Int)).toNat = 0 from rfl] at hx257_1); (try rw [show 0 * 3 = 0 from rfl] at hx257_1); (try rw [Addr.add_zero'] at hx257_1); (try rw [show ((0 : Int)).toNat = 0 from rfl] at hx257_2); (try rw [show 0 * 3 = 0 from rfl] at hx257_2); (try rw [Addr.add_zero'] at hx257_2); have HR257_1 := Aside0.mk hi257_1; have HC257_1 := Aside0.mk hl257_1; clear hi257_1 hl257_1; replace p257 := eq_true p257; replace q257 := eq_true q257; have ea_ := Option.some.inj (hx254_1.symm.trans hx257_1); injection ea_ with ea_ en_ ec_; subst ea_; subst ec_; clear en_; have p258 : 0 ≤ ((Go.bits .and .i64 a1 7) : Int) := of_decide_eq_true (by first | (with_reducible assumption) | assumption); have q258 : (Go.bits .and .i64 a1 7) < (((rd_T47 t247 0).f1).length : Int) := of_decide_eq_true (by first | (with_reducible assumption) | assumption); obtain ⟨ad258, e258, hx258_0, hx258_1, hx258_2⟩ := at_T33 (by repeat (first | (with_reducible exact HR257_1.out) | (with_reducible refine Kd.C_alloc ?_ _) | (with_reducible refine Kd.C_drewN ?_ _) | (with_reducible refine Kd.C_drew ?_) | exact HR257_1.out)) (Go.bits .and .i64 a1 7) p258 q258; cases e258; replace p258 := eq_true p258; replace q258 := eq_true q258) | (go_at_call 22; (with_reducible refine (glebelaw10_awake.calls k2  t259 _ A42.out).mono ?_); rintro e w52 ⟨rfl, hb⟩; have n0_ := Aside0.mk (Kd.V_below (by (with_reducible repeat (first | apply Kd.V_alloc | apply Kd.V_drewN | apply Kd.V_drew)); exact HO246.out) hb); have n1_ := Aside0.mk (Kd.S_below (by (with_reducible repeat (first | apply Kd.S_alloc | apply Kd.S_drewN | apply Kd.S_drew)); exact HO249.out) hb); have n2_ := Aside0.mk (Kd.R_below (by (with_reducible repeat (first | apply Kd.R_alloc | apply Kd.R_drewN | apply Kd.R_drew)); exact HL254_1.out) hb); have n3_ := Aside0.mk (Kd.R_below (by (with_reducible repeat (first | apply Kd.R_alloc | apply Kd.R_drewN | apply Kd.R_drew)); exact HL255_1.out) hb); have n4_ := Aside0.mk (Kd.R_below (by (with_reducible repeat (first | apply Kd.R_alloc | apply Kd.R_drewN | apply Kd.R_drew)); exact HL257_1.out) hb); have n5_ := Aside0.mk (blk_below (g := gb252) (o := .cells #[.int .i64 t250, .int .i64 t251] 26 (0, 0)) (by (with_reducible repeat (first | refine blk_drewN ?_ _ | refine blk_drew ?_ | refine blk_alloc ?_ _)); exact BK252.out) hb); have n6_ := Aside0.mk (Kd.C_below (by repeat (first | (with_reducible exact HR254_1.out) | (with_reducible refine Kd.C_alloc ?_ _) | (with_reducible refine Kd.C_drewN ?_ _) | (with_reducible refine Kd.C_drew ?_) | exact HR254_1.out)) hb); have n7_ := Aside0.mk (Kd.C_below (by repeat (first | (with_reducible exact HR255_1.out) | (with_reducible refine Kd.C_alloc ?_ _) | (with_reducible refine Kd.C_drewN ?_ _) | (with_reducible refine Kd.C_drew ?_) | exact HR255_1.out)) hb); have n8_ := Aside0.mk (Kd.C_below (by repeat (first | (with_reducible exact HR257_1.out) | (with_reducible refine Kd.C_alloc ?_ _) | (with_reducible refine Kd.C_drewN ?_ _) | (with_reducible refine Kd.C_drew ?_) | exact HR257_1.out)) hb); have n9_ := Aside0.mk (below_step (by repeat (first | (with_reducible first | exact HB.out | apply below_alloc | apply pw_below_drewN | apply below_drew1 | refine below_set ?_ GE252.out) | exact HB.out)) hb); clear HO246; clear HO249; clear HL254_1; clear HL255_1; clear HL257_1; clear BK252; clear HR254_1; clear HR255_1; clear HR257_1; clear HB; have HO246 := n0_; have HO249 := n1_; have HL254_1 := n2_; have HL255_1 := n3_; have HL257_1 := n4_; have BK252 := n5_; have HR254_1 := n6_; have HR255_1 := n7_; have HR257_1 := n8_; have HB := n9_; clear n0_ n1_ n2_ n3_ n4_ n5_ n6_ n7_ n8_ n9_; (try clear hb); (try clear hb2); (try clear hk); (try clear hi)))
                                    go_ret
                                    exact ⟨by first | rfl | (simp [errW_none, errW_some] <;> rfl) | (simp [*, errW_none, errW_some] <;> rfl), by repeat (first | (with_reducible first | exact HB.out | apply below_alloc | apply pw_below_drewN | apply below_drew1 | refine below_set ?_ GE252.out) | exact HB.out)⟩
                                  · rw [if_neg c41] at H
                                    exact absurd H (by simp)
                                · rw [if_neg c40] at H
                                  exact absurd H (by simp)
                              · rw [if_neg c39] at H
                                exact absurd H (by simp)
                            · rw [if_neg c38] at H
                              exact absurd H (by simp)
                          · rw [if_neg c37] at H
                            exact absurd H (by simp)
                        · rw [if_neg c36] at H
                          exact absurd H (by simp)
                      · rw [if_neg c35] at H
                        exact absurd H (by simp)
                    · rw [if_neg c34] at H
                      exact absurd H (by simp)
                · rw [if_neg c20] at H
                  exact absurd H (by simp)

/-- THE ONE PURE STATEMENT of glebelaw10_DnslLong: yours. -/
def glebelaw10_DnslLong.Pure : Prop := ∀ (a0 : Int) (a1 : Int) (a2 : Bool), (Lit.int .i64 a0).wf = true → (Lit.int .i64 a1).wf = true → ∃ k, glebelaw10_DnslLong.f k a0 a1 a2 = some true
theorem glebelaw10_DnslLong.walk (P : glebelaw10_DnslLong.Pure) (a0 : Int) (a1 : Int) (a2 : Bool) (w : World) (w0 : (Lit.int .i64 a0).wf = true) (w1 : (Lit.int .i64 a1).wf = true) :
    Calls Try.prog 8 #[.int .i64 a0, .int .i64 a1, .bool a2] w fun e w' => e = .returned (.bool true) ∧ Below w.heap.size w w' := by
  obtain ⟨k, h⟩ := P a0 a1 a2 w0 w1
  refine (glebelaw10_DnslLong.calls k a0 a1 a2 true w h).mono ?_
  rintro e w' ⟨rfl, hd⟩
  exact ⟨rfl, hd⟩

end Go.Proofs.Ytnkcffmklomfhaa.D
