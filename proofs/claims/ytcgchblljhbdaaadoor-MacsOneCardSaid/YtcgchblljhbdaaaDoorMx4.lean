-- Printed by this session's own program (wip/xprint) out of the translation. Lean checks it.
import Derived.Test.YtcgchblljhbdaaaDoorMx0
import Derived.Test.YtcgchblljhbdaaaDoorMx1
import Derived.Test.YtcgchblljhbdaaaDoorMx2
namespace Go.Proofs.YtcgchblljhbdaaaDoor.M
open Go.Proofs.YtcgchblljhbdaaaDoor
open Go.RowKit Go.Proofs.YtcgchblljhbdaaaDoorW.PrintWords Go.Proofs.YtcgchblljhbdaaaDoorW.PrintLast Go.Proofs.YtcgchblljhbdaaaDoorW.PrintMore
attribute [local go_sem] max2_int min2_int max_two min_two max_three min_three max_four min_four   -- for this text's walks alone
set_option linter.unusedVariables false
set_option linter.unusedSimpArgs false

/-! ### glebelaw5_MacsOne: function 8 -/
mutual
def glebelaw5_MacsOne.j0 : Nat → Int → Int → ByteArray → Bool → Option (Bool)
  | 0, _, _, _, _ => none
  | k + 1, x0, x1, x5, x29 => if x29 = true then (none) else (glebelaw5_MacsOne.l0 k x0 x1 x5 (⟨#[]⟩ : ByteArray) 0)
def glebelaw5_MacsOne.l0 : Nat → Int → Int → ByteArray → ByteArray → Int → Option (Bool)
  | 0, _, _, _, _, _ => none
  | k + 1, x0, x1, x5, x7, x8 => if x8 < (x5.size : Int) then (if 0 ≤ x8 then (if (bt x5 x8) ≥ 97 then (if (bt x5 x8) ≤ 102 then ((some (([((bt x5 x8) - 32) % 256] : List Int) : List Int)).bind fun y151 => (if x7.size + (strOfNums y151).size ≤ 9223372036854775807 then (glebelaw5_MacsOne.l0 k x0 x1 x5 (x7 ++ (strOfNums y151)) (wrap64 (x8 + 1))) else (none))) else ((some (([bt x5 x8] : List Int) : List Int)).bind fun y154 => (if x7.size + (strOfNums y154).size ≤ 9223372036854775807 then (glebelaw5_MacsOne.l0 k x0 x1 x5 (x7 ++ (strOfNums y154)) (wrap64 (x8 + 1))) else (none)))) else ((some (([bt x5 x8] : List Int) : List Int)).bind fun y157 => (if x7.size + (strOfNums y157).size ≤ 9223372036854775807 then (glebelaw5_MacsOne.l0 k x0 x1 x5 (x7 ++ (strOfNums y157)) (wrap64 (x8 + 1))) else (none)))) else (none)) else ((macs_Parse.f k x7).bind fun bt160 => (if 0 ≤ (Int.tmod (Go.bits .and .i64 x1 255) 17) then (if (Int.tmod (Go.bits .and .i64 x1 255) 17) < (x5.size : Int) then (if (bt x5 (Int.tmod (Go.bits .and .i64 x1 255) 17)) = 48 then (if (Int.tmod (Go.bits .and .i64 x1 255) 17) ≤ (x5.size : Int) then ((some (([49] : List Int) : List Int)).bind fun y162 => (if (x5.extract 0 ((Int.tmod (Go.bits .and .i64 x1 255) 17) : Int).toNat).size + (strOfNums y162).size ≤ 9223372036854775807 then (if 0 ≤ (wrap64 ((Int.tmod (Go.bits .and .i64 x1 255) 17) + 1)) then (if (wrap64 ((Int.tmod (Go.bits .and .i64 x1 255) 17) + 1)) ≤ (x5.size : Int) then (if (x5.extract 0 ((Int.tmod (Go.bits .and .i64 x1 255) 17) : Int).toNat).size + (strOfNums y162).size + (x5.extract ((wrap64 ((Int.tmod (Go.bits .and .i64 x1 255) 17) + 1)) : Int).toNat x5.size).size ≤ 9223372036854775807 then ((macs_Parse.f k (((x5.extract 0 ((Int.tmod (Go.bits .and .i64 x1 255) 17) : Int).toNat) ++ (strOfNums y162)) ++ (x5.extract ((wrap64 ((Int.tmod (Go.bits .and .i64 x1 255) 17) + 1)) : Int).toNat x5.size))).bind fun bt165 => (if bt160.2 = true then (if bt160.1 = x0 then (if (bt165.2 == ((bt x5 (Int.tmod (Go.bits .and .i64 x1 255) 17)) != 58)) = true then (if bt165.2 = true then (if bt165.1 = x0 then (none) else ((glebelaw5_awake.f k).bind fun t167 => (some t167))) else ((glebelaw5_awake.f k).bind fun t168 => (some t168))) else (none)) else (none)) else (none))) else (none)) else (none)) else (none)) else (none))) else (none)) else (if (Int.tmod (Go.bits .and .i64 x1 255) 17) ≤ (x5.size : Int) then ((some (([48] : List Int) : List Int)).bind fun y169 => (if (x5.extract 0 ((Int.tmod (Go.bits .and .i64 x1 255) 17) : Int).toNat).size + (strOfNums y169).size ≤ 9223372036854775807 then (if 0 ≤ (wrap64 ((Int.tmod (Go.bits .and .i64 x1 255) 17) + 1)) then (if (wrap64 ((Int.tmod (Go.bits .and .i64 x1 255) 17) + 1)) ≤ (x5.size : Int) then (if (x5.extract 0 ((Int.tmod (Go.bits .and .i64 x1 255) 17) : Int).toNat).size + (strOfNums y169).size + (x5.extract ((wrap64 ((Int.tmod (Go.bits .and .i64 x1 255) 17) + 1)) : Int).toNat x5.size).size ≤ 9223372036854775807 then ((macs_Parse.f k (((x5.extract 0 ((Int.tmod (Go.bits .and .i64 x1 255) 17) : Int).toNat) ++ (strOfNums y169)) ++ (x5.extract ((wrap64 ((Int.tmod (Go.bits .and .i64 x1 255) 17) + 1)) : Int).toNat x5.size))).bind fun bt172 => (if bt160.2 = true then (if bt160.1 = x0 then (if (bt172.2 == ((bt x5 (Int.tmod (Go.bits .and .i64 x1 255) 17)) != 58)) = true then (if bt172.2 = true then (if bt172.1 = x0 then (none) else ((glebelaw5_awake.f k).bind fun t174 => (some t174))) else ((glebelaw5_awake.f k).bind fun t175 => (some t175))) else (none)) else (none)) else (none))) else (none)) else (none)) else (none)) else (none))) else (none))) else (none)) else (none)))
end
def glebelaw5_MacsOne.f (k : Nat) (a0 : Int) (a1 : Int) : Option (Bool) := (macs_Print.f k (Go.bits .and .u64 a0 281474976710655)).bind fun bt149 => (if bt149.2 = true then (glebelaw5_MacsOne.j0 k (Go.bits .and .u64 a0 281474976710655) a1 bt149.1 ((bt149.1.size : Int) != 17)) else (glebelaw5_MacsOne.j0 k (Go.bits .and .u64 a0 281474976710655) a1 bt149.1 true))
theorem glebelaw5_MacsOne.mono_l : ∀ k, (∀ y0 y1 y2 y3, LeO (glebelaw5_MacsOne.j0 k y0 y1 y2 y3) (glebelaw5_MacsOne.j0 (k + 1) y0 y1 y2 y3)) ∧ (∀ y0 y1 y2 y3 y4, LeO (glebelaw5_MacsOne.l0 k y0 y1 y2 y3 y4) (glebelaw5_MacsOne.l0 (k + 1) y0 y1 y2 y3 y4))
  | 0 => ⟨fun _ _ _ _ r h => by simp [glebelaw5_MacsOne.j0] at h, fun _ _ _ _ _ r h => by simp [glebelaw5_MacsOne.l0] at h⟩
  | k + 1 => by
    obtain ⟨ih0, ih1⟩ := glebelaw5_MacsOne.mono_l k
    refine ⟨?_, ?_⟩
    · intro y0 y1 y2 y3
      unfold glebelaw5_MacsOne.j0
      repeat' first
      | (with_reducible exact ih0 _ _ _ _)
      | (with_reducible exact ih1 _ _ _ _ _)
      | (with_reducible exact glebelaw5_awake.mono _)
      | (with_reducible exact macs_Parse.mono _ _)
      | (with_reducible exact macs_Print.mono _ _)
      | (with_reducible exact LeO.refl _)
      | (with_reducible exact LeO.none _)
      | (with_reducible refine LeO.ite ?_ ?_)
      | (with_reducible refine LeO.bind ?_ (fun _ => ?_))
      | exact ih0 _ _ _ _
      | exact ih1 _ _ _ _ _
      | exact glebelaw5_awake.mono _
      | exact macs_Parse.mono _ _
      | exact macs_Print.mono _ _
      | exact LeO.none _
      | refine LeO.ite ?_ ?_
      | refine LeO.bind ?_ (fun _ => ?_)
    · intro y0 y1 y2 y3 y4
      unfold glebelaw5_MacsOne.l0
      repeat' first
      | (with_reducible exact ih0 _ _ _ _)
      | (with_reducible exact ih1 _ _ _ _ _)
      | (with_reducible exact glebelaw5_awake.mono _)
      | (with_reducible exact macs_Parse.mono _ _)
      | (with_reducible exact macs_Print.mono _ _)
      | (with_reducible exact LeO.refl _)
      | (with_reducible exact LeO.none _)
      | (with_reducible refine LeO.ite ?_ ?_)
      | (with_reducible refine LeO.bind ?_ (fun _ => ?_))
      | exact ih0 _ _ _ _
      | exact ih1 _ _ _ _ _
      | exact glebelaw5_awake.mono _
      | exact macs_Parse.mono _ _
      | exact macs_Print.mono _ _
      | exact LeO.none _
      | refine LeO.ite ?_ ?_
      | refine LeO.bind ?_ (fun _ => ?_)
theorem glebelaw5_MacsOne.mono : ∀ a0 a1 k, LeO (glebelaw5_MacsOne.f k a0 a1) (glebelaw5_MacsOne.f (k + 1) a0 a1) := by
  intro a0 a1 k
  obtain ⟨ih0, ih1⟩ := glebelaw5_MacsOne.mono_l k
  unfold glebelaw5_MacsOne.f
  repeat' first
      | (with_reducible exact ih0 _ _ _ _)
      | (with_reducible exact ih1 _ _ _ _ _)
      | (with_reducible exact glebelaw5_awake.mono _)
      | (with_reducible exact macs_Parse.mono _ _)
      | (with_reducible exact macs_Print.mono _ _)
      | (with_reducible exact LeO.refl _)
      | (with_reducible exact LeO.none _)
      | (with_reducible refine LeO.ite ?_ ?_)
      | (with_reducible refine LeO.bind ?_ (fun _ => ?_))
      | exact ih0 _ _ _ _
      | exact ih1 _ _ _ _ _
      | exact glebelaw5_awake.mono _
      | exact macs_Parse.mono _ _
      | exact macs_Print.mono _ _
      | exact LeO.none _
      | refine LeO.ite ?_ ?_
      | refine LeO.bind ?_ (fun _ => ?_)
def glebelaw5_MacsOne.T18 : Bool × List (List Nat × List Nat) := (true, [([], []), ([], []), ([0, 1], [0, 1]), ([], []), ([3], [3]), ([4], [4]), ([2, 5], [2, 5]), ([], []), ([], []), ([8], [8]), ([7, 9], [7, 9]), ([6, 10], [6, 10]), ([11], [11]), ([12], [12]), ([13], [13]), ([13], [13]), ([14, 12, 0, 1, 2, 3, 4, 5, 6, 7, 8, 9, 10, 11, 12, 13, 14], [14]), ([15, 16, 0, 1, 2, 3, 4, 5, 6, 7, 8, 9, 10, 11, 12, 13, 14, 15, 16], [15])])
def glebelaw5_MacsOne.B18 : List Nat := [0, 0, 3, 0, 8, 24, 63, 0, 0, 256, 896, 2047, 4095, 8191, 16383, 16383, 32767, 131071]
theorem glebelaw5_MacsOne.tab18 : rtab .any (opsOf Tryd.f8 18) = glebelaw5_MacsOne.T18 := by kernel_rfl
theorem glebelaw5_MacsOne.bits18 : waitsOk glebelaw5_MacsOne.T18.2 glebelaw5_MacsOne.B18 = true := by kernel_rfl
set_option maxHeartbeats 8000000 in
set_option maxRecDepth 100000 in
theorem glebelaw5_MacsOne.calls (k : Nat) (a0 : Int) (a1 : Int) (r : Bool) (w : World) (h : glebelaw5_MacsOne.f k a0 a1 = some r) :
    Calls Tryd.prog 8 #[.int .u64 a0, .int .i64 a1] w fun e w' => e = .returned (.bool r) ∧ Below w.heap.size w w' := by
  have HB := Aside0.mk (Below.refl w.heap.size w)
  have H : ((macs_Print.f k (Go.bits .and .u64 a0 281474976710655)).bind fun bt149 => (if bt149.2 = true then (glebelaw5_MacsOne.j0 k (Go.bits .and .u64 a0 281474976710655) a1 bt149.1 ((bt149.1.size : Int) != 17)) else (glebelaw5_MacsOne.j0 k (Go.bits .and .u64 a0 281474976710655) a1 bt149.1 true))) = some r := h
  clear h
  replace H := Option.bind_eq_some_iff.mp H
  obtain ⟨⟨t149, t150⟩, A30, H⟩ := H
  replace H : (if t150 = true then (glebelaw5_MacsOne.j0 k (Go.bits .and .u64 a0 281474976710655) a1 t149 ((t149.size : Int) != 17)) else (glebelaw5_MacsOne.j0 k (Go.bits .and .u64 a0 281474976710655) a1 t149 true)) = some r := H
  have A3 := Aside0.mk A30
  clear A30
  have HC4 := Aside0.mk H
  clear H
  go_enter Tryd.func8, Tryd.ntmps8
  go_upto_region 3 with (first | ((with_reducible refine gate_callee (f := 29) rfl ?_); refine goesL_ (some 20) rfl rfl Tryd.func29 (by kernel_rfl) rfl #[.int .u64 (Go.bits .and .u64 a0 281474976710655)] rfl (by (try simp only [List.map_toArray, List.map_cons, List.map_nil]); first | done | rfl | (simp only [List.length_drop, List.length_take]; rfl)) ?_; (with_reducible refine (macs_Print.calls k (Go.bits .and .u64 a0 281474976710655) t149 t150 _ A3.out).mono ?_); rintro e w5 ⟨rfl, hb⟩; refine ⟨_, rfl, ?_⟩; have n0_ := Aside0.mk (below_step (by repeat (first | (with_reducible first | exact HB.out | apply below_alloc | apply pw_below_drewN | apply below_drew1) | exact HB.out)) hb); clear HB; have HB := n0_; clear n0_; (try clear hb); (try clear hb2); (try clear hk); (try clear hi)))
  (try simp only [Act.put, List.setIfInBounds_toArray, List.set_cons_zero, List.set_cons_succ])
  go_cut [29] (fun v29 wc => ∃ (kq : Nat) (x29_3 : Bool), v29 = .bool x29_3 ∧ Aside0 (glebelaw5_MacsOne.j0 kq (Go.bits .and .u64 a0 281474976710655) a1 t149 x29_3 = some r) ∧ Aside0 (kq ≤ k) ∧ Aside0 (Below w.heap.size w wc))
  case first =>
    have H := HC4.out
    clear HC4
    by_cases c6 : t150 = true
    · subst c6
      have H1 : (glebelaw5_MacsOne.j0 k (Go.bits .and .u64 a0 281474976710655) a1 t149 ((t149.size : Int) != 17)) = some r := by rw [if_pos rfl] at H; exact H
      clear H
      have H := H1
      clear H1
      have H' := Aside0.mk H
      clear H
      go_wp2
      go_meet
      case rel => exact ⟨_, (((t149.size : Int) != 17)), (by first | rfl | (simp only [i64_w]; done) | (simp; done) | (simp [*]; done)), H', ⟨by first | omega | exact Nat.le_refl _⟩, ⟨by repeat (first | (with_reducible first | exact HB.out | apply below_alloc | apply pw_below_drewN | apply below_drew1) | exact HB.out)⟩⟩
    · replace c6 := Bool.eq_false_iff.mpr c6
      subst c6
      have H1 : (glebelaw5_MacsOne.j0 k (Go.bits .and .u64 a0 281474976710655) a1 t149 true) = some r := by rw [if_neg (show ¬ (false = true) by decide)] at H; exact H
      clear H
      have H := H1
      clear H1
      have H' := Aside0.mk H
      clear H
      go_wp2
      go_meet
      case rel => exact ⟨_, (true), (by first | rfl | (simp only [i64_w]; done) | (simp; done) | (simp [*]; done)), H', ⟨by first | omega | exact Nat.le_refl _⟩, ⟨by repeat (first | (with_reducible first | exact HB.out | apply below_alloc | apply pw_below_drewN | apply below_drew1) | exact HB.out)⟩⟩
  case rest =>
    clear HC4
    try clear c2
    try clear p2
    try clear c6
    obtain ⟨kq, x29_3, rfl, HA, HJ3, HB⟩ := hcut
    cases kq with
    | zero => exact absurd HA.out (by simp [glebelaw5_MacsOne.j0])
    | succ kj3 =>
      have H := HA.out
      clear HA
      simp only [glebelaw5_MacsOne.j0] at H
      by_cases c7 : x29_3 = true
      · subst c7
        have H1 : (none) = some r := by rw [if_pos rfl] at H; exact H
        clear H
        have H := H1
        clear H1
        exact absurd H (by simp)
      · replace c7 := Bool.eq_false_iff.mpr c7
        subst c7
        have H1 : (glebelaw5_MacsOne.l0 kj3 (Go.bits .and .u64 a0 281474976710655) a1 t149 (⟨#[]⟩ : ByteArray) 0) = some r := by rw [if_neg (show ¬ (false = true) by decide)] at H; exact H
        clear H
        have H := H1
        clear H1
        have H' := Aside0.mk H
        clear H
        go_wp2
        go_loopg [7, 8] kj3 (fun kq v7 v8 w' => ∃ (x7_2 : ByteArray) (x8_2 : Int), v7 = .string x7_2 ∧ v8 = .int .i64 x8_2 ∧ Aside0 (glebelaw5_MacsOne.l0 kq (Go.bits .and .u64 a0 281474976710655) a1 t149 x7_2 x8_2 = some r) ∧ Aside0 (kq ≤ kj3) ∧ Aside0 (Below w.heap.size w w'))
        case atStart => exact ⟨((⟨#[]⟩ : ByteArray)), (0), (by first | rfl | (simp only [i64_w]; done) | (simp; done) | (simp [*]; done)), (by first | rfl | (simp only [i64_w]; done) | (simp; done) | (simp [*]; done)), H', ⟨Nat.le_refl _⟩, ⟨by repeat (first | (with_reducible first | exact HB.out | apply below_alloc | apply pw_below_drewN | apply below_drew1) | exact HB.out)⟩⟩
        case round =>
          clear H'
          try clear c2
          try clear p2
          try clear c6
          try clear c7
          try clear p2
          obtain ⟨x7_2, x8_2, rfl, rfl, HA, HK2, HB⟩ := hrel
          cases gk with
          | zero => exact absurd HA.out (by simp [glebelaw5_MacsOne.l0])
          | succ k2 =>
            have H := HA.out
            clear HA
            simp only [glebelaw5_MacsOne.l0] at H
            by_cases c8 : x8_2 < (t149.size : Int)
            · rw [if_pos c8] at H
              have c8b0 : decide (x8_2 < (t149.size : Int)) = true := decide_eq_true c8
              clear c8
              by_cases c9 : 0 ≤ x8_2
              · rw [if_pos c9] at H
                have c9b0 : decide (0 ≤ x8_2) = true := decide_eq_true c9
                clear c9
                by_cases c11 : (bt t149 x8_2) ≥ 97
                · rw [if_pos c11] at H
                  have c11b0 : decide (97 ≤ (bt t149 x8_2)) = true := decide_eq_true c11
                  clear c11
                  by_cases c12 : (bt t149 x8_2) ≤ 102
                  · rw [if_pos c12] at H
                    have c12b0 : decide ((bt t149 x8_2) ≤ 102) = true := decide_eq_true c12
                    clear c12
                    obtain ⟨y151, hy151⟩ : ∃ y_ : List Int, y_ = (([((bt t149 x8_2) - 32) % 256] : List Int)) := ⟨_, rfl⟩
                    replace H : (if x7_2.size + (strOfNums y151).size ≤ 9223372036854775807 then (glebelaw5_MacsOne.l0 k2 (Go.bits .and .u64 a0 281474976710655) a1 t149 (x7_2 ++ (strOfNums y151)) (wrap64 (x8_2 + 1))) else (none)) = some r := by first | (rw [hy151]; with_reducible exact H) | (have H2_ := (Option.bind_some _ _).symm.trans H; rw [hy151]; with_reducible exact H2_) | (have H2_ := (Option.bind_some _ _).symm.trans H; with_reducible exact H2_) | with_reducible exact H | (rw [hy151]; exact H) | exact H
                    have Ny151 := Aside0.mk hy151
                    clear hy151
                    by_cases c13 : x7_2.size + (strOfNums y151).size ≤ 9223372036854775807
                    · rw [if_pos c13] at H
                      have c13b0 := eq_true c13
                      have c13b1 : decide (x7_2.size + (strOfNums y151).size ≤ 9223372036854775807) = true := decide_eq_true c13
                      try have c13b2 : (9223372036854775807 < x7_2.size + (strOfNums y151).size) = False := eq_false (Nat.not_lt.2 c13)
                      have H' := Aside0.mk H
                      clear H
                      have p10 : 0 ≤ (x8_2 : Int) := of_decide_eq_true (by first | (with_reducible assumption) | assumption)
                      have q10 : x8_2 < (t149.size : Int) := of_decide_eq_true (by first | (with_reducible assumption) | assumption)
                      have hx10 := bt_at t149 x8_2
                      replace p10 := eq_true p10
                      replace q10 := eq_true q10
                      go_wp2_with (first | ((with_reducible refine gate_dst (N := 49) rfl ?_); (try (refine gate_guard (by rfl) ?_; dsimp only)); refine Kd.R_lit (Kd.int .u8) _ 5 ?hg (N := 49) ?hd (xs := ([((bt t149 x8_2) - 32) % 256] : List Int)) (inner := [.int .u8 (((bt t149 x8_2) - 32) % 256)]) (ok := fun _ => True) (okp := fun _ => True) ?hr ?hp (fun _ hk => hk) trivial (Below.refl _ _) (Nat.le_refl _) (by simp) ?_; (case hd => rfl); (case hg => rfl); (case hr => first | (go_simp; done) | (go_simp; rfl)); (case hp => exact (Reps.one (show Kd.M (Kd.int .u8) _ _ _ (((bt t149 x8_2) - 32) % 256) [.int .u8 (((bt t149 x8_2) - 32) % 256)] from rfl) (Reps.none _ _))); intro v152 w14 ho15 hb hg_ hnew_; clear hg_ hnew_; (first | rw [← Ny151.out] at ho15 | (simp only [Int.reduceToNat] at ho15; rw [← Ny151.out] at ho15)); have n0_ := Aside0.mk (Kd.R_lower ho15 (below_size (by repeat (first | (with_reducible first | exact HB.out | apply below_alloc | apply pw_below_drewN | apply below_drew1) | exact HB.out)))); have n1_ := Aside0.mk (below_step (by repeat (first | (with_reducible first | exact HB.out | apply below_alloc | apply pw_below_drewN | apply below_drew1) | exact HB.out)) hb); clear HB; have HO153 := n0_; have HB := n1_; clear n0_ n1_; clear hb ho15; have hcv16 := own_string (P := Tryd.prog) Tryd.underlying35 Tryd.underlying5 Tryd.underlying9 (Kd.own_of_R HO153.out)))
                      go_roundg k2
                      case measure => have := HJ3.out; have := HK2.out; omega
                      case rel => exact ⟨(x7_2 ++ (strOfNums y151)), (wrap64 (x8_2 + 1)), (by first | rfl | (simp only [i64_w]; done) | (simp; done) | (simp [*]; done)), (by first | rfl | (simp only [i64_w]; done) | (simp; done) | (simp [*]; done)), H', ⟨by have := HJ3.out; have := HK2.out; omega⟩, ⟨by repeat (first | (with_reducible first | exact HB.out | apply below_alloc | apply pw_below_drewN | apply below_drew1) | exact HB.out)⟩⟩
                    · rw [if_neg c13] at H
                      exact absurd H (by simp)
                  · rw [if_neg c12] at H
                    have c12b0 : decide ((bt t149 x8_2) ≤ 102) = false := decide_eq_false c12
                    clear c12
                    obtain ⟨y154, hy154⟩ : ∃ y_ : List Int, y_ = (([bt t149 x8_2] : List Int)) := ⟨_, rfl⟩
                    replace H : (if x7_2.size + (strOfNums y154).size ≤ 9223372036854775807 then (glebelaw5_MacsOne.l0 k2 (Go.bits .and .u64 a0 281474976710655) a1 t149 (x7_2 ++ (strOfNums y154)) (wrap64 (x8_2 + 1))) else (none)) = some r := by first | (rw [hy154]; with_reducible exact H) | (have H2_ := (Option.bind_some _ _).symm.trans H; rw [hy154]; with_reducible exact H2_) | (have H2_ := (Option.bind_some _ _).symm.trans H; with_reducible exact H2_) | with_reducible exact H | (rw [hy154]; exact H) | exact H
                    have Ny154 := Aside0.mk hy154
                    clear hy154
                    by_cases c17 : x7_2.size + (strOfNums y154).size ≤ 9223372036854775807
                    · rw [if_pos c17] at H
                      have c17b0 := eq_true c17
                      have c17b1 : decide (x7_2.size + (strOfNums y154).size ≤ 9223372036854775807) = true := decide_eq_true c17
                      try have c17b2 : (9223372036854775807 < x7_2.size + (strOfNums y154).size) = False := eq_false (Nat.not_lt.2 c17)
                      have H' := Aside0.mk H
                      clear H
                      have p10 : 0 ≤ (x8_2 : Int) := of_decide_eq_true (by first | (with_reducible assumption) | assumption)
                      have q10 : x8_2 < (t149.size : Int) := of_decide_eq_true (by first | (with_reducible assumption) | assumption)
                      have hx10 := bt_at t149 x8_2
                      replace p10 := eq_true p10
                      replace q10 := eq_true q10
                      go_wp2_with (first | ((with_reducible refine gate_dst (N := 49) rfl ?_); (try (refine gate_guard (by rfl) ?_; dsimp only)); refine Kd.R_lit (Kd.int .u8) _ 5 ?hg (N := 49) ?hd (xs := ([bt t149 x8_2] : List Int)) (inner := [.int .u8 (bt t149 x8_2)]) (ok := fun _ => True) (okp := fun _ => True) ?hr ?hp (fun _ hk => hk) trivial (Below.refl _ _) (Nat.le_refl _) (by simp) ?_; (case hd => rfl); (case hg => rfl); (case hr => first | (go_simp; done) | (go_simp; rfl)); (case hp => exact (Reps.one (show Kd.M (Kd.int .u8) _ _ _ (bt t149 x8_2) [.int .u8 (bt t149 x8_2)] from rfl) (Reps.none _ _))); intro v155 w18 ho19 hb hg_ hnew_; clear hg_ hnew_; (first | rw [← Ny154.out] at ho19 | (simp only [Int.reduceToNat] at ho19; rw [← Ny154.out] at ho19)); have n0_ := Aside0.mk (Kd.R_lower ho19 (below_size (by repeat (first | (with_reducible first | exact HB.out | apply below_alloc | apply pw_below_drewN | apply below_drew1) | exact HB.out)))); have n1_ := Aside0.mk (below_step (by repeat (first | (with_reducible first | exact HB.out | apply below_alloc | apply pw_below_drewN | apply below_drew1) | exact HB.out)) hb); clear HB; have HO156 := n0_; have HB := n1_; clear n0_ n1_; clear hb ho19; have hcv20 := own_string (P := Tryd.prog) Tryd.underlying35 Tryd.underlying5 Tryd.underlying9 (Kd.own_of_R HO156.out)))
                      go_roundg k2
                      case measure => have := HJ3.out; have := HK2.out; omega
                      case rel => exact ⟨(x7_2 ++ (strOfNums y154)), (wrap64 (x8_2 + 1)), (by first | rfl | (simp only [i64_w]; done) | (simp; done) | (simp [*]; done)), (by first | rfl | (simp only [i64_w]; done) | (simp; done) | (simp [*]; done)), H', ⟨by have := HJ3.out; have := HK2.out; omega⟩, ⟨by repeat (first | (with_reducible first | exact HB.out | apply below_alloc | apply pw_below_drewN | apply below_drew1) | exact HB.out)⟩⟩
                    · rw [if_neg c17] at H
                      exact absurd H (by simp)
                · rw [if_neg c11] at H
                  have c11b0 : decide (97 ≤ (bt t149 x8_2)) = false := decide_eq_false c11
                  clear c11
                  obtain ⟨y157, hy157⟩ : ∃ y_ : List Int, y_ = (([bt t149 x8_2] : List Int)) := ⟨_, rfl⟩
                  replace H : (if x7_2.size + (strOfNums y157).size ≤ 9223372036854775807 then (glebelaw5_MacsOne.l0 k2 (Go.bits .and .u64 a0 281474976710655) a1 t149 (x7_2 ++ (strOfNums y157)) (wrap64 (x8_2 + 1))) else (none)) = some r := by first | (rw [hy157]; with_reducible exact H) | (have H2_ := (Option.bind_some _ _).symm.trans H; rw [hy157]; with_reducible exact H2_) | (have H2_ := (Option.bind_some _ _).symm.trans H; with_reducible exact H2_) | with_reducible exact H | (rw [hy157]; exact H) | exact H
                  have Ny157 := Aside0.mk hy157
                  clear hy157
                  by_cases c21 : x7_2.size + (strOfNums y157).size ≤ 9223372036854775807
                  · rw [if_pos c21] at H
                    have c21b0 := eq_true c21
                    have c21b1 : decide (x7_2.size + (strOfNums y157).size ≤ 9223372036854775807) = true := decide_eq_true c21
                    try have c21b2 : (9223372036854775807 < x7_2.size + (strOfNums y157).size) = False := eq_false (Nat.not_lt.2 c21)
                    have H' := Aside0.mk H
                    clear H
                    have p10 : 0 ≤ (x8_2 : Int) := of_decide_eq_true (by first | (with_reducible assumption) | assumption)
                    have q10 : x8_2 < (t149.size : Int) := of_decide_eq_true (by first | (with_reducible assumption) | assumption)
                    have hx10 := bt_at t149 x8_2
                    replace p10 := eq_true p10
                    replace q10 := eq_true q10
                    go_wp2_with (first | ((with_reducible refine gate_dst (N := 49) rfl ?_); (try (refine gate_guard (by rfl) ?_; dsimp only)); refine Kd.R_lit (Kd.int .u8) _ 5 ?hg (N := 49) ?hd (xs := ([bt t149 x8_2] : List Int)) (inner := [.int .u8 (bt t149 x8_2)]) (ok := fun _ => True) (okp := fun _ => True) ?hr ?hp (fun _ hk => hk) trivial (Below.refl _ _) (Nat.le_refl _) (by simp) ?_; (case hd => rfl); (case hg => rfl); (case hr => first | (go_simp; done) | (go_simp; rfl)); (case hp => exact (Reps.one (show Kd.M (Kd.int .u8) _ _ _ (bt t149 x8_2) [.int .u8 (bt t149 x8_2)] from rfl) (Reps.none _ _))); intro v158 w22 ho23 hb hg_ hnew_; clear hg_ hnew_; (first | rw [← Ny157.out] at ho23 | (simp only [Int.reduceToNat] at ho23; rw [← Ny157.out] at ho23)); have n0_ := Aside0.mk (Kd.R_lower ho23 (below_size (by repeat (first | (with_reducible first | exact HB.out | apply below_alloc | apply pw_below_drewN | apply below_drew1) | exact HB.out)))); have n1_ := Aside0.mk (below_step (by repeat (first | (with_reducible first | exact HB.out | apply below_alloc | apply pw_below_drewN | apply below_drew1) | exact HB.out)) hb); clear HB; have HO159 := n0_; have HB := n1_; clear n0_ n1_; clear hb ho23; have hcv24 := own_string (P := Tryd.prog) Tryd.underlying35 Tryd.underlying5 Tryd.underlying9 (Kd.own_of_R HO159.out)))
                    go_roundg k2
                    case measure => have := HJ3.out; have := HK2.out; omega
                    case rel => exact ⟨(x7_2 ++ (strOfNums y157)), (wrap64 (x8_2 + 1)), (by first | rfl | (simp only [i64_w]; done) | (simp; done) | (simp [*]; done)), (by first | rfl | (simp only [i64_w]; done) | (simp; done) | (simp [*]; done)), H', ⟨by have := HJ3.out; have := HK2.out; omega⟩, ⟨by repeat (first | (with_reducible first | exact HB.out | apply below_alloc | apply pw_below_drewN | apply below_drew1) | exact HB.out)⟩⟩
                  · rw [if_neg c21] at H
                    exact absurd H (by simp)
              · rw [if_neg c9] at H
                exact absurd H (by simp)
            · rw [if_neg c8] at H
              have c8b0 : decide (x8_2 < (t149.size : Int)) = false := decide_eq_false c8
              clear c8
              replace H := Option.bind_eq_some_iff.mp H
              obtain ⟨⟨t160, t161⟩, A250, H⟩ := H
              replace H : (if 0 ≤ (Int.tmod (Go.bits .and .i64 a1 255) 17) then (if (Int.tmod (Go.bits .and .i64 a1 255) 17) < (t149.size : Int) then (if (bt t149 (Int.tmod (Go.bits .and .i64 a1 255) 17)) = 48 then (if (Int.tmod (Go.bits .and .i64 a1 255) 17) ≤ (t149.size : Int) then ((some (([49] : List Int) : List Int)).bind fun y162 => (if (t149.extract 0 ((Int.tmod (Go.bits .and .i64 a1 255) 17) : Int).toNat).size + (strOfNums y162).size ≤ 9223372036854775807 then (if 0 ≤ (wrap64 ((Int.tmod (Go.bits .and .i64 a1 255) 17) + 1)) then (if (wrap64 ((Int.tmod (Go.bits .and .i64 a1 255) 17) + 1)) ≤ (t149.size : Int) then (if (t149.extract 0 ((Int.tmod (Go.bits .and .i64 a1 255) 17) : Int).toNat).size + (strOfNums y162).size + (t149.extract ((wrap64 ((Int.tmod (Go.bits .and .i64 a1 255) 17) + 1)) : Int).toNat t149.size).size ≤ 9223372036854775807 then ((macs_Parse.f k2 (((t149.extract 0 ((Int.tmod (Go.bits .and .i64 a1 255) 17) : Int).toNat) ++ (strOfNums y162)) ++ (t149.extract ((wrap64 ((Int.tmod (Go.bits .and .i64 a1 255) 17) + 1)) : Int).toNat t149.size))).bind fun bt165 => (if t161 = true then (if t160 = (Go.bits .and .u64 a0 281474976710655) then (if (bt165.2 == ((bt t149 (Int.tmod (Go.bits .and .i64 a1 255) 17)) != 58)) = true then (if bt165.2 = true then (if bt165.1 = (Go.bits .and .u64 a0 281474976710655) then (none) else ((glebelaw5_awake.f k2).bind fun t167 => (some t167))) else ((glebelaw5_awake.f k2).bind fun t168 => (some t168))) else (none)) else (none)) else (none))) else (none)) else (none)) else (none)) else (none))) else (none)) else (if (Int.tmod (Go.bits .and .i64 a1 255) 17) ≤ (t149.size : Int) then ((some (([48] : List Int) : List Int)).bind fun y169 => (if (t149.extract 0 ((Int.tmod (Go.bits .and .i64 a1 255) 17) : Int).toNat).size + (strOfNums y169).size ≤ 9223372036854775807 then (if 0 ≤ (wrap64 ((Int.tmod (Go.bits .and .i64 a1 255) 17) + 1)) then (if (wrap64 ((Int.tmod (Go.bits .and .i64 a1 255) 17) + 1)) ≤ (t149.size : Int) then (if (t149.extract 0 ((Int.tmod (Go.bits .and .i64 a1 255) 17) : Int).toNat).size + (strOfNums y169).size + (t149.extract ((wrap64 ((Int.tmod (Go.bits .and .i64 a1 255) 17) + 1)) : Int).toNat t149.size).size ≤ 9223372036854775807 then ((macs_Parse.f k2 (((t149.extract 0 ((Int.tmod (Go.bits .and .i64 a1 255) 17) : Int).toNat) ++ (strOfNums y169)) ++ (t149.extract ((wrap64 ((Int.tmod (Go.bits .and .i64 a1 255) 17) + 1)) : Int).toNat t149.size))).bind fun bt172 => (if t161 = true then (if t160 = (Go.bits .and .u64 a0 281474976710655) then (if (bt172.2 == ((bt t149 (Int.tmod (Go.bits .and .i64 a1 255) 17)) != 58)) = true then (if bt172.2 = true then (if bt172.1 = (Go.bits .and .u64 a0 281474976710655) then (none) else ((glebelaw5_awake.f k2).bind fun t174 => (some t174))) else ((glebelaw5_awake.f k2).bind fun t175 => (some t175))) else (none)) else (none)) else (none))) else (none)) else (none)) else (none)) else (none))) else (none))) else (none)) else (none)) = some r := H
              have A25 := Aside0.mk A250
              clear A250
              obtain ⟨ji26, hji26⟩ : ∃ j_ : Int, (Int.tmod (Go.bits .and .i64 a1 255) 17) = j_ := ⟨_, rfl⟩
              replace H : (if 0 ≤ (ji26) then (if (ji26) < (t149.size : Int) then (if (bt t149 (ji26)) = 48 then (if (ji26) ≤ (t149.size : Int) then ((some (([49] : List Int) : List Int)).bind fun y162 => (if (t149.extract 0 ((ji26) : Int).toNat).size + (strOfNums y162).size ≤ 9223372036854775807 then (if 0 ≤ (wrap64 ((ji26) + 1)) then (if (wrap64 ((ji26) + 1)) ≤ (t149.size : Int) then (if (t149.extract 0 ((ji26) : Int).toNat).size + (strOfNums y162).size + (t149.extract ((wrap64 ((ji26) + 1)) : Int).toNat t149.size).size ≤ 9223372036854775807 then ((macs_Parse.f k2 (((t149.extract 0 ((ji26) : Int).toNat) ++ (strOfNums y162)) ++ (t149.extract ((wrap64 ((ji26) + 1)) : Int).toNat t149.size))).bind fun bt165 => (if t161 = true then (if t160 = (Go.bits .and .u64 a0 281474976710655) then (if (bt165.2 == ((bt t149 (ji26)) != 58)) = true then (if bt165.2 = true then (if bt165.1 = (Go.bits .and .u64 a0 281474976710655) then (none) else ((glebelaw5_awake.f k2).bind fun t167 => (some t167))) else ((glebelaw5_awake.f k2).bind fun t168 => (some t168))) else (none)) else (none)) else (none))) else (none)) else (none)) else (none)) else (none))) else (none)) else (if (ji26) ≤ (t149.size : Int) then ((some (([48] : List Int) : List Int)).bind fun y169 => (if (t149.extract 0 ((ji26) : Int).toNat).size + (strOfNums y169).size ≤ 9223372036854775807 then (if 0 ≤ (wrap64 ((ji26) + 1)) then (if (wrap64 ((ji26) + 1)) ≤ (t149.size : Int) then (if (t149.extract 0 ((ji26) : Int).toNat).size + (strOfNums y169).size + (t149.extract ((wrap64 ((ji26) + 1)) : Int).toNat t149.size).size ≤ 9223372036854775807 then ((macs_Parse.f k2 (((t149.extract 0 ((ji26) : Int).toNat) ++ (strOfNums y169)) ++ (t149.extract ((wrap64 ((ji26) + 1)) : Int).toNat t149.size))).bind fun bt172 => (if t161 = true then (if t160 = (Go.bits .and .u64 a0 281474976710655) then (if (bt172.2 == ((bt t149 (ji26)) != 58)) = true then (if bt172.2 = true then (if bt172.1 = (Go.bits .and .u64 a0 281474976710655) then (none) else ((glebelaw5_awake.f k2).bind fun t174 => (some t174))) else ((glebelaw5_awake.f k2).bind fun t175 => (some t175))) else (none)) else (none)) else (none))) else (none)) else (none)) else (none)) else (none))) else (none))) else (none)) else (none)) = some r := by first | (rw [hji26] at H; exact H) | (simp only [hji26] at H ⊢; exact H)
              (try rw [hji26] at A25)
              by_cases c27 : 0 ≤ (ji26)
              · rw [if_pos c27] at H
                have c27b0 : decide (0 ≤ (ji26)) = true := decide_eq_true c27
                clear c27
                by_cases c28 : (ji26) < (t149.size : Int)
                · rw [if_pos c28] at H
                  have c28b0 : decide ((ji26) < (t149.size : Int)) = true := decide_eq_true c28
                  clear c28
                  by_cases c30 : (bt t149 (ji26)) = 48
                  · rw [if_pos c30] at H
                    have c30b0 : ((bt t149 (ji26)) == 48) = true := beq_iff_eq.mpr c30
                    have c30b1 : ((bt t149 (ji26)) != 48) = false := bne_eq_false_iff_eq.mpr c30
                    clear c30
                    have c31b0 := eq_true (of_decide_eq_true (by first | (with_reducible assumption) | assumption) : 0 ≤ (ji26))
                    by_cases c32 : (ji26) ≤ (t149.size : Int)
                    · rw [if_pos c32] at H
                      have c32b0 := eq_true c32
                      have c32b1 : decide ((ji26) ≤ (t149.size : Int)) = true := decide_eq_true c32
                      clear c32
                      obtain ⟨y162, hy162⟩ : ∃ y_ : List Int, y_ = (([49] : List Int)) := ⟨_, rfl⟩
                      replace H : (if (t149.extract 0 ((ji26) : Int).toNat).size + (strOfNums y162).size ≤ 9223372036854775807 then (if 0 ≤ (wrap64 ((ji26) + 1)) then (if (wrap64 ((ji26) + 1)) ≤ (t149.size : Int) then (if (t149.extract 0 ((ji26) : Int).toNat).size + (strOfNums y162).size + (t149.extract ((wrap64 ((ji26) + 1)) : Int).toNat t149.size).size ≤ 9223372036854775807 then ((macs_Parse.f k2 (((t149.extract 0 ((ji26) : Int).toNat) ++ (strOfNums y162)) ++ (t149.extract ((wrap64 ((ji26) + 1)) : Int).toNat t149.size))).bind fun bt165 => (if t161 = true then (if t160 = (Go.bits .and .u64 a0 281474976710655) then (if (bt165.2 == ((bt t149 (ji26)) != 58)) = true then (if bt165.2 = true then (if bt165.1 = (Go.bits .and .u64 a0 281474976710655) then (none) else ((glebelaw5_awake.f k2).bind fun t167 => (some t167))) else ((glebelaw5_awake.f k2).bind fun t168 => (some t168))) else (none)) else (none)) else (none))) else (none)) else (none)) else (none)) else (none)) = some r := by first | (rw [hy162]; with_reducible exact H) | (have H2_ := (Option.bind_some _ _).symm.trans H; rw [hy162]; with_reducible exact H2_) | (have H2_ := (Option.bind_some _ _).symm.trans H; with_reducible exact H2_) | with_reducible exact H | (rw [hy162]; exact H) | exact H
                      have Ny162 := Aside0.mk hy162
                      clear hy162
                      by_cases c33 : (t149.extract 0 ((ji26) : Int).toNat).size + (strOfNums y162).size ≤ 9223372036854775807
                      · rw [if_pos c33] at H
                        have c33b0 := eq_true c33
                        have c33b1 : decide ((t149.extract 0 ((ji26) : Int).toNat).size + (strOfNums y162).size ≤ 9223372036854775807) = true := decide_eq_true c33
                        try have c33b2 : (9223372036854775807 < (t149.extract 0 ((ji26) : Int).toNat).size + (strOfNums y162).size) = False := eq_false (Nat.not_lt.2 c33)
                        try have c33b3 : (9223372036854775807 < ((ji26) : Int).toNat + (strOfNums y162).size) = False := eq_false (Nat.not_lt.2 (by have h_ := c33; simp only [ByteArray.size_extract] at h_; have h0_ : (ji26) ≤ (t149.size : Int) := of_decide_eq_true (by first | (with_reducible assumption) | assumption); omega))
                        obtain ⟨ji34, hji34⟩ : ∃ j_ : Int, (wrap64 ((ji26) + 1)) = j_ := ⟨_, rfl⟩
                        replace H : (if 0 ≤ (ji34) then (if (ji34) ≤ (t149.size : Int) then (if (t149.extract 0 ((ji26) : Int).toNat).size + (strOfNums y162).size + (t149.extract ((ji34) : Int).toNat t149.size).size ≤ 9223372036854775807 then ((macs_Parse.f k2 (((t149.extract 0 ((ji26) : Int).toNat) ++ (strOfNums y162)) ++ (t149.extract ((ji34) : Int).toNat t149.size))).bind fun bt165 => (if t161 = true then (if t160 = (Go.bits .and .u64 a0 281474976710655) then (if (bt165.2 == ((bt t149 (ji26)) != 58)) = true then (if bt165.2 = true then (if bt165.1 = (Go.bits .and .u64 a0 281474976710655) then (none) else ((glebelaw5_awake.f k2).bind fun t167 => (some t167))) else ((glebelaw5_awake.f k2).bind fun t168 => (some t168))) else (none)) else (none)) else (none))) else (none)) else (none)) else (none)) = some r := by first | (rw [hji34] at H; exact H) | (simp only [hji34] at H ⊢; exact H)
                        (try rw [hji34] at A25)
                        have hji34w : (IntKind.i64.wrap ((ji26) + 1)) = ji34 := (i64_w _).trans hji34
                        by_cases c35 : 0 ≤ (ji34)
                        · rw [if_pos c35] at H
                          have c35b0 := eq_true c35
                          have c35b1 : decide (0 ≤ (ji34)) = true := decide_eq_true c35
                          clear c35
                          by_cases c36 : (ji34) ≤ (t149.size : Int)
                          · rw [if_pos c36] at H
                            have c36b0 := eq_true c36
                            have c36b1 : decide ((ji34) ≤ (t149.size : Int)) = true := decide_eq_true c36
                            clear c36
                            by_cases c37 : (t149.extract 0 ((ji26) : Int).toNat).size + (strOfNums y162).size + (t149.extract ((ji34) : Int).toNat t149.size).size ≤ 9223372036854775807
                            · rw [if_pos c37] at H
                              have c37b0 := eq_true c37
                              have c37b1 : decide ((t149.extract 0 ((ji26) : Int).toNat).size + (strOfNums y162).size + (t149.extract ((ji34) : Int).toNat t149.size).size ≤ 9223372036854775807) = true := decide_eq_true c37
                              try have c37b2 : (9223372036854775807 < (t149.extract 0 ((ji26) : Int).toNat).size + (strOfNums y162).size + (t149.extract ((ji34) : Int).toNat t149.size).size) = False := eq_false (Nat.not_lt.2 c37)
                              try have c37b3 : (9223372036854775807 < ((ji26) : Int).toNat + (strOfNums y162).size + (t149.size - ((ji34) : Int).toNat)) = False := eq_false (Nat.not_lt.2 (by have h_ := c37; simp only [ByteArray.size_extract] at h_; have h0_ : (ji26) ≤ (t149.size : Int) := of_decide_eq_true (by first | (with_reducible assumption) | assumption); omega))
                              replace H := Option.bind_eq_some_iff.mp H
                              obtain ⟨⟨t165, t166⟩, A380, H⟩ := H
                              replace H : (if t161 = true then (if t160 = (Go.bits .and .u64 a0 281474976710655) then (if (t166 == ((bt t149 (ji26)) != 58)) = true then (if t166 = true then (if t165 = (Go.bits .and .u64 a0 281474976710655) then (none) else ((glebelaw5_awake.f k2).bind fun t167 => (some t167))) else ((glebelaw5_awake.f k2).bind fun t168 => (some t168))) else (none)) else (none)) else (none)) = some r := H
                              have A38 := Aside0.mk A380
                              clear A380
                              by_cases c39 : t161 = true
                              · subst c39
                                have H1 : (if t160 = (Go.bits .and .u64 a0 281474976710655) then (if (t166 == ((bt t149 (ji26)) != 58)) = true then (if t166 = true then (if t165 = (Go.bits .and .u64 a0 281474976710655) then (none) else ((glebelaw5_awake.f k2).bind fun t167 => (some t167))) else ((glebelaw5_awake.f k2).bind fun t168 => (some t168))) else (none)) else (none)) = some r := by rw [if_pos rfl] at H; exact H
                                clear H
                                have H := H1
                                clear H1
                                by_cases c40 : t160 = (Go.bits .and .u64 a0 281474976710655)
                                · rw [if_pos c40] at H
                                  have c40b0 : (t160 == (Go.bits .and .u64 a0 281474976710655)) = true := beq_iff_eq.mpr c40
                                  have c40b1 : (t160 != (Go.bits .and .u64 a0 281474976710655)) = false := bne_eq_false_iff_eq.mpr c40
                                  clear c40
                                  by_cases c42 : (t166 == ((bt t149 (ji26)) != 58)) = true
                                  · rw [if_pos c42] at H
                                    have c42b0 : (t166 == ((bt t149 (ji26)) != 58)) = true := c42
                                    (try (have c42b1 : decide (t166 = ((bt t149 (ji26)) != 58)) = true := by simpa using c42))
                                    (try (have c42b2 : (t166 == ((bt t149 (ji26)) != 58)) = true := by simpa using c42))
                                    clear c42
                                    by_cases c43 : t166 = true
                                    · subst c43
                                      have H1 : (if t165 = (Go.bits .and .u64 a0 281474976710655) then (none) else ((glebelaw5_awake.f k2).bind fun t167 => (some t167))) = some r := by rw [if_pos rfl] at H; exact H
                                      clear H
                                      have H := H1
                                      clear H1
                                      by_cases c44 : t165 = (Go.bits .and .u64 a0 281474976710655)
                                      · rw [if_pos c44] at H
                                        exact absurd H (by simp)
                                      · rw [if_neg c44] at H
                                        have c44b0 : (t165 == (Go.bits .and .u64 a0 281474976710655)) = false := beq_eq_false_iff_ne.mpr c44
                                        have c44b1 : (t165 != (Go.bits .and .u64 a0 281474976710655)) = true := bne_iff_ne.mpr c44
                                        replace H := Option.bind_eq_some_iff.mp H
                                        obtain ⟨t167, A450, H⟩ := H
                                        replace H : (some t167) = some r := H
                                        have A45 := Aside0.mk A450
                                        clear A450
                                        obtain rfl := Option.some.inj H
                                        try go_wp2_with (first | ((with_reducible refine gate_callee (f := 26) rfl ?_); refine goesL_ (some 54) rfl rfl Tryd.func26 (by kernel_rfl) rfl #[.string x7_2] rfl (by (try simp only [List.map_toArray, List.map_cons, List.map_nil]); first | done | rfl | (simp only [List.length_drop, List.length_take]; rfl)) ?_; (with_reducible refine (macs_Parse.calls k2 x7_2 t160 true _ A25.out).mono ?_); rintro e w46 ⟨rfl, hb⟩; refine ⟨_, rfl, ?_⟩; have n0_ := Aside0.mk (below_step (by repeat (first | (with_reducible first | exact HB.out | apply below_alloc | apply pw_below_drewN | apply below_drew1) | exact HB.out)) hb); clear HB; have HB := n0_; clear n0_; (try clear hb); (try clear hb2); (try clear hk); (try clear hi); have p29 : 0 ≤ ((ji26) : Int) := of_decide_eq_true (by first | (with_reducible assumption) | assumption); have q29 : (ji26) < (t149.size : Int) := of_decide_eq_true (by first | (with_reducible assumption) | assumption); have hx29 := bt_at t149 (ji26); replace p29 := eq_true p29; replace q29 := eq_true q29))
                                        have n0_ := Aside0.mk (below_drew1 HB.out)
                                        clear HB
                                        have HB := n0_
                                        clear n0_
                                        refine start_ (n := 18) (S := fun w' => True) (ds := []) #[false, false, false, false, false, false, false, false, false, false, false, false, false, false, false, false, false, false] (by kernel_rfl) rfl rfl trivial (fun hHeld => ?_); refine with_tabW glebelaw5_MacsOne.tab18 glebelaw5_MacsOne.bits18 (fun HT_ HW_ => ?_)
                                        generalize w46.drew = w47 at HB hHeld ⊢
                                        refine pure_ (i := 0) (N := some 65) (v := ?_) (a' := ?_) #[true, false, false, false, false, false, false, false, false, false, false, false, false, false, false, false, false, false] rfl rfl (any_of HT_.out (by kernel_rfl)) (fun _ _ _ h => h) (Or.inl ⟨by rfl, ?_⟩) ?_ ?_
                                        rotate_left
                                        · intro w'
                                          go_simp
                                          with_reducible rfl
                                        rotate_left
                                        · simp only [Act.put, List.setIfInBounds_toArray, List.set_cons_zero, List.set_cons_succ, i64_w, i32_w]
                                          rfl
                                        refine pure_ (i := 1) (N := some 66) (v := ?_) (a' := ?_) #[true, true, false, false, false, false, false, false, false, false, false, false, false, false, false, false, false, false] rfl rfl (any_of HT_.out (by kernel_rfl)) (fun _ _ _ h => h) (Or.inl ⟨by rfl, ?_⟩) ?_ ?_
                                        rotate_left
                                        · intro w'
                                          go_simp
                                          with_reducible rfl
                                        rotate_left
                                        · simp only [Act.put, List.setIfInBounds_toArray, List.set_cons_zero, List.set_cons_succ, i64_w, i32_w]
                                          rfl
                                        refine pure_ (i := 2) (N := some 67) (v := ?_) (a' := ?_) #[true, true, true, false, false, false, false, false, false, false, false, false, false, false, false, false, false, false] rfl rfl (any_of HT_.out (by kernel_rfl)) (fun _ _ _ h => h) (Or.inl ⟨by rfl, ?_⟩) ?_ ?_
                                        rotate_left
                                        · intro w'
                                          go_simp
                                          with_reducible rfl
                                        rotate_left
                                        · simp only [Act.put, List.setIfInBounds_toArray, List.set_cons_zero, List.set_cons_succ, i64_w, i32_w]
                                          rfl
                                        refine pure_ (i := 3) (N := some 68) (v := ?_) (a' := ?_) #[true, true, true, true, false, false, false, false, false, false, false, false, false, false, false, false, false, false] rfl rfl (any_of HT_.out (by kernel_rfl)) (fun _ _ _ h => h) (Or.inl ⟨by rfl, ?_⟩) ?_ ?_
                                        rotate_left
                                        · intro w'
                                          go_simp
                                          with_reducible rfl
                                        rotate_left
                                        · simp only [Act.put, List.setIfInBounds_toArray, List.set_cons_zero, List.set_cons_succ, i64_w, i32_w]
                                          rfl
                                        refine pure_ (i := 7) (N := some 72) (v := ?_) (a' := ?_) #[true, true, true, true, false, false, false, true, false, false, false, false, false, false, false, false, false, false] rfl rfl (any_of HT_.out (by kernel_rfl)) (fun _ _ _ h => h) (Or.inl ⟨by rfl, ?_⟩) ?_ ?_
                                        rotate_left
                                        · intro w'
                                          go_simp
                                          with_reducible rfl
                                        rotate_left
                                        · simp only [Act.put, List.setIfInBounds_toArray, List.set_cons_zero, List.set_cons_succ, i64_w, i32_w]
                                          rfl
                                        refine pure_ (i := 8) (N := some 73) (v := ?_) (a' := ?_) #[true, true, true, true, false, false, false, true, true, false, false, false, false, false, false, false, false, false] rfl rfl (any_of HT_.out (by kernel_rfl)) (fun _ _ _ h => h) (Or.inl ⟨by rfl, ?_⟩) ?_ ?_
                                        rotate_left
                                        · intro w'
                                          go_simp
                                          with_reducible rfl
                                        rotate_left
                                        · simp only [Act.put, List.setIfInBounds_toArray, List.set_cons_zero, List.set_cons_succ, i64_w, i32_w]
                                          rfl
                                        refine pure_ (i := 9) (N := some 74) (v := ?_) (a' := ?_) #[true, true, true, true, false, false, false, true, true, true, false, false, false, false, false, false, false, false] rfl rfl (any_of HT_.out (by kernel_rfl)) (fun _ _ _ h => h) (Or.inl ⟨by rfl, ?_⟩) ?_ ?_
                                        rotate_left
                                        · intro w'
                                          go_simp
                                          with_reducible rfl
                                        rotate_left
                                        · simp only [Act.put, List.setIfInBounds_toArray, List.set_cons_zero, List.set_cons_succ, i64_w, i32_w]
                                          rfl
                                        refine pure_ (i := 10) (N := some 75) (v := ?_) (a' := ?_) #[true, true, true, true, false, false, false, true, true, true, true, false, false, false, false, false, false, false] rfl rfl (any_of HT_.out (by kernel_rfl)) (fun _ _ _ h => h) (Or.inl ⟨by rfl, ?_⟩) ?_ ?_
                                        rotate_left
                                        · intro w'
                                          go_simp
                                          with_reducible rfl
                                        rotate_left
                                        · simp only [Act.put, List.setIfInBounds_toArray, List.set_cons_zero, List.set_cons_succ, i64_w, i32_w]
                                          rfl
                                        refine one_ (i := 4) (N := some 69) #[true, true, true, true, true, false, false, true, true, true, true, false, false, false, false, false, false, false] rfl rfl (one_of HT_.out (by kernel_rfl)) (by decide) (fun K hK => ?_)
                                        refine Kd.R_lit_step (Kd.int .u8) _ 5 ?hg (N := 69) ?hd (xs := ([49] : List Int)) (inner := [.int .u8 49]) (ok := fun _ => True) (okp := fun _ => True) ?hr ?hp (fun _ hk => hk) trivial (Below.refl _ _) (Nat.le_refl _) (by simp) ?_; (case hd => rfl); (case hg => rfl); (case hr => first | (go_simp; done) | (go_simp; rfl)); (case hp => exact (Reps.one (show Kd.M (Kd.int .u8) _ _ _ 49 [.int .u8 49] from rfl) (Reps.none _ _)))
                                        intro v163 w48 ho49 hb hg_ hnew_
                                        clear hg_ hnew_
                                        (first | rw [← Ny162.out] at ho49 | (simp only [Int.reduceToNat] at ho49; rw [← Ny162.out] at ho49))
                                        have n0_ := Aside0.mk (Kd.R_lower ho49 (below_size (by repeat (first | (with_reducible first | exact HB.out | apply below_alloc | apply pw_below_drewN | apply below_drew1) | exact HB.out))))
                                        have n1_ := Aside0.mk (below_step (by repeat (first | (with_reducible first | exact HB.out | apply below_alloc | apply pw_below_drewN | apply below_drew1) | exact HB.out)) hb)
                                        clear HB
                                        have HO164 := n0_
                                        have HB := n1_
                                        clear n0_ n1_
                                        clear hb ho49
                                        refine hK.out _ _ trivial (fun hHeld => ?_)
                                        clear hK K
                                        refine norm_ (a' := ?_) ?_ ?_
                                        rotate_left
                                        · show Act.put _ (some 69) _ = _
                                          simp only [Act.put, List.setIfInBounds_toArray, List.set_cons_zero, List.set_cons_succ, i64_w, i32_w]
                                          rfl
                                        refine one_ (i := 5) (N := some 70) #[true, true, true, true, true, true, false, true, true, true, true, false, false, false, false, false, false, false] rfl rfl (one_of HT_.out (by kernel_rfl)) (by decide) (fun K hK => ?_)
                                        have hcv50 := own_string (P := Tryd.prog) Tryd.underlying35 Tryd.underlying5 Tryd.underlying9 (Kd.own_of_R HO164.out)
                                        refine value_ (w1 := ?_) (v := ?_) (by rfl) rfl ?_ ?_
                                        rotate_left 2
                                        · go_simp
                                          constructor
                                          · rfl
                                          · rfl
                                        clear hcv50
                                        refine hK.out _ _ trivial (fun hHeld => ?_)
                                        clear hK K
                                        refine norm_ (a' := ?_) ?_ ?_
                                        rotate_left
                                        · show Act.put _ (some 70) _ = _
                                          simp only [Act.put, List.setIfInBounds_toArray, List.set_cons_zero, List.set_cons_succ, i64_w, i32_w]
                                          rfl
                                        refine pure_ (i := 6) (N := some 71) (v := ?_) (a' := ?_) #[true, true, true, true, true, true, true, true, true, true, true, false, false, false, false, false, false, false] rfl rfl (any_of HT_.out (by kernel_rfl)) (fun _ _ _ h => h) (Or.inl ⟨by rfl, ?_⟩) ?_ ?_
                                        rotate_left
                                        · intro w'
                                          go_simp
                                          with_reducible rfl
                                        rotate_left
                                        · simp only [Act.put, List.setIfInBounds_toArray, List.set_cons_zero, List.set_cons_succ, i64_w, i32_w]
                                          rfl
                                        refine pure_ (i := 11) (N := some 76) (v := ?_) (a' := ?_) #[true, true, true, true, true, true, true, true, true, true, true, true, false, false, false, false, false, false] rfl rfl (any_of HT_.out (by kernel_rfl)) (fun _ _ _ h => h) (Or.inl ⟨by rfl, ?_⟩) ?_ ?_
                                        rotate_left
                                        · intro w'
                                          go_simp
                                          with_reducible rfl
                                        rotate_left
                                        · simp only [Act.put, List.setIfInBounds_toArray, List.set_cons_zero, List.set_cons_succ, i64_w, i32_w]
                                          rfl
                                        refine one_ (i := 12) (N := some 77) #[true, true, true, true, true, true, true, true, true, true, true, true, true, false, false, false, false, false] rfl rfl (one_of HT_.out (by kernel_rfl)) (by decide) (fun K hK => ?_)
                                        refine goes_ Tryd.func26 (by kernel_rfl) rfl #[.string (((t149.extract 0 ((ji26) : Int).toNat) ++ (strOfNums y162)) ++ (t149.extract ((ji34) : Int).toNat t149.size))] (by rfl) rfl rfl (by (try simp only [List.map_toArray, List.map_cons, List.map_nil]); first | done | (simp only [hji26, hji34]; rfl) | rfl | (simp only [List.length_drop, List.length_take]; rfl)) ?_
                                        with_reducible refine (macs_Parse.calls k2 (((t149.extract 0 ((ji26) : Int).toNat) ++ (strOfNums y162)) ++ (t149.extract ((ji34) : Int).toNat t149.size)) t165 true _ A38.out).mono ?_
                                        rintro e w51 ⟨rfl, hb⟩
                                        refine ⟨_, rfl, ?_⟩
                                        have n0_ := Aside0.mk (Kd.R_below (by (with_reducible repeat (first | apply Kd.R_alloc | apply Kd.R_drewN | apply Kd.R_drew)); exact HO164.out) hb)
                                        have n1_ := Aside0.mk (below_step (by repeat (first | (with_reducible first | exact HB.out | apply below_alloc | apply pw_below_drewN | apply below_drew1) | exact HB.out)) hb)
                                        clear HO164
                                        clear HB
                                        have HO164 := n0_
                                        have HB := n1_
                                        clear n0_ n1_
                                        (try clear hb)
                                        (try clear hb2)
                                        (try clear hk)
                                        (try clear hi)
                                        refine hK.out _ _ trivial (fun hHeld => ?_)
                                        clear hK K
                                        refine norm_ (a' := ?_) ?_ ?_
                                        rotate_left
                                        · show Act.put _ (some 77) _ = _
                                          simp only [Act.put, List.setIfInBounds_toArray, List.set_cons_zero, List.set_cons_succ, i64_w, i32_w]
                                          rfl
                                        refine pure_ (i := 13) (N := some 64) (v := ?_) (a' := ?_) #[true, true, true, true, true, true, true, true, true, true, true, true, true, true, false, false, false, false] rfl rfl (any_of HT_.out (by kernel_rfl)) (fun _ _ _ h => h) (Or.inl ⟨by rfl, ?_⟩) ?_ ?_
                                        rotate_left
                                        · intro w'
                                          go_simp
                                          with_reducible rfl
                                        rotate_left
                                        · simp only [Act.put, List.setIfInBounds_toArray, List.set_cons_zero, List.set_cons_succ, i64_w, i32_w]
                                          rfl
                                        refine pure_ (i := 14) (N := some 78) (v := ?_) (a' := ?_) #[true, true, true, true, true, true, true, true, true, true, true, true, true, true, true, false, false, false] rfl rfl (any_of HT_.out (by kernel_rfl)) (fun _ _ _ h => h) (Or.inl ⟨by rfl, ?_⟩) ?_ ?_
                                        rotate_left
                                        · intro w'
                                          go_simp
                                          with_reducible rfl
                                        rotate_left
                                        · simp only [Act.put, List.setIfInBounds_toArray, List.set_cons_zero, List.set_cons_succ, i64_w, i32_w]
                                          rfl
                                        refine pure_ (i := 15) (N := some 79) (v := ?_) (a' := ?_) #[true, true, true, true, true, true, true, true, true, true, true, true, true, true, true, true, false, false] rfl rfl (any_of HT_.out (by kernel_rfl)) (fun _ _ _ h => h) (Or.inl ⟨by rfl, ?_⟩) ?_ ?_
                                        rotate_left
                                        · intro w'
                                          go_simp
                                          with_reducible rfl
                                        rotate_left
                                        · simp only [Act.put, List.setIfInBounds_toArray, List.set_cons_zero, List.set_cons_succ, i64_w, i32_w]
                                          rfl
                                        refine pure_ (i := 16) (N := some 14) (v := ?_) (a' := ?_) #[true, true, true, true, true, true, true, true, true, true, true, true, true, true, true, true, true, false] rfl rfl (any_of HT_.out (by kernel_rfl)) (fun _ _ _ h => h) (Or.inl ⟨by rfl, ?_⟩) ?_ ?_
                                        rotate_left
                                        · intro w'
                                          go_simp
                                          with_reducible rfl
                                        rotate_left
                                        · simp only [Act.put, List.setIfInBounds_toArray, List.set_cons_zero, List.set_cons_succ, i64_w, i32_w]
                                          rfl
                                        refine pure_ (i := 17) (N := some 15) (v := ?_) (a' := ?_) #[true, true, true, true, true, true, true, true, true, true, true, true, true, true, true, true, true, true] rfl rfl (any_of HT_.out (by kernel_rfl)) (fun _ _ _ h => h) (Or.inl ⟨by rfl, ?_⟩) ?_ ?_
                                        rotate_left
                                        · intro w'
                                          go_simp
                                          with_reducible rfl
                                        rotate_left
                                        · simp only [Act.put, List.setIfInBounds_toArray, List.set_cons_zero, List.set_cons_succ, i64_w, i32_w]
                                          rfl
                                        refine done_ (done_of HT_.out (by kernel_rfl)) ?_
                                        have p41 : 0 ≤ ((ji26) : Int) := of_decide_eq_true (by first | (with_reducible assumption) | assumption)
                                        have q41 : (ji26) < (t149.size : Int) := of_decide_eq_true (by first | (with_reducible assumption) | assumption)
                                        have hx41 := bt_at t149 (ji26)
                                        replace p41 := eq_true p41
                                        replace q41 := eq_true q41
                                        try go_wp2_with (first | (go_at_call 28; (with_reducible refine (glebelaw5_awake.calls k2  t167 _ A45.out).mono ?_); rintro e w52 ⟨rfl, hb⟩; have n0_ := Aside0.mk (Kd.R_below (by (with_reducible repeat (first | apply Kd.R_alloc | apply Kd.R_drewN | apply Kd.R_drew)); exact HO164.out) hb); have n1_ := Aside0.mk (below_step (by repeat (first | (with_reducible first | exact HB.out | apply below_alloc | apply pw_below_drewN | apply below_drew1) | exact HB.out)) hb); clear HO164; clear HB; have HO164 := n0_; have HB := n1_; clear n0_ n1_; (try clear hb); (try clear hb2); (try clear hk); (try clear hi)))
                                        go_ret
                                        exact ⟨by first | rfl | (simp [errW_none, errW_some] <;> rfl) | (simp only [← hji26, ← hji34]; first | rfl | (simp [errW_none, errW_some] <;> rfl)) | (simp [*, errW_none, errW_some] <;> rfl), by repeat (first | (with_reducible first | exact HB.out | apply below_alloc | apply pw_below_drewN | apply below_drew1) | exact HB.out)⟩
                                    · replace c43 := Bool.eq_false_iff.mpr c43
                                      subst c43
                                      have H1 : ((glebelaw5_awake.f k2).bind fun t168 => (some t168)) = some r := by rw [if_neg (show ¬ (false = true) by decide)] at H; exact H
                                      clear H
                                      have H := H1
                                      clear H1
                                      replace H := Option.bind_eq_some_iff.mp H
                                      obtain ⟨t168, A530, H⟩ := H
                                      replace H : (some t168) = some r := H
                                      have A53 := Aside0.mk A530
                                      clear A530
                                      obtain rfl := Option.some.inj H
                                      try go_wp2_with (first | ((with_reducible refine gate_callee (f := 26) rfl ?_); refine goesL_ (some 54) rfl rfl Tryd.func26 (by kernel_rfl) rfl #[.string x7_2] rfl (by (try simp only [List.map_toArray, List.map_cons, List.map_nil]); first | done | rfl | (simp only [List.length_drop, List.length_take]; rfl)) ?_; (with_reducible refine (macs_Parse.calls k2 x7_2 t160 true _ A25.out).mono ?_); rintro e w54 ⟨rfl, hb⟩; refine ⟨_, rfl, ?_⟩; have n0_ := Aside0.mk (below_step (by repeat (first | (with_reducible first | exact HB.out | apply below_alloc | apply pw_below_drewN | apply below_drew1) | exact HB.out)) hb); clear HB; have HB := n0_; clear n0_; (try clear hb); (try clear hb2); (try clear hk); (try clear hi); have p29 : 0 ≤ ((ji26) : Int) := of_decide_eq_true (by first | (with_reducible assumption) | assumption); have q29 : (ji26) < (t149.size : Int) := of_decide_eq_true (by first | (with_reducible assumption) | assumption); have hx29 := bt_at t149 (ji26); replace p29 := eq_true p29; replace q29 := eq_true q29))
                                      have n0_ := Aside0.mk (below_drew1 HB.out)
                                      clear HB
                                      have HB := n0_
                                      clear n0_
                                      refine start_ (n := 18) (S := fun w' => True) (ds := []) #[false, false, false, false, false, false, false, false, false, false, false, false, false, false, false, false, false, false] (by kernel_rfl) rfl rfl trivial (fun hHeld => ?_); refine with_tabW glebelaw5_MacsOne.tab18 glebelaw5_MacsOne.bits18 (fun HT_ HW_ => ?_)
                                      generalize w54.drew = w55 at HB hHeld ⊢
                                      refine pure_ (i := 0) (N := some 65) (v := ?_) (a' := ?_) #[true, false, false, false, false, false, false, false, false, false, false, false, false, false, false, false, false, false] rfl rfl (any_of HT_.out (by kernel_rfl)) (fun _ _ _ h => h) (Or.inl ⟨by rfl, ?_⟩) ?_ ?_
                                      rotate_left
                                      · intro w'
                                        go_simp
                                        with_reducible rfl
                                      rotate_left
                                      · simp only [Act.put, List.setIfInBounds_toArray, List.set_cons_zero, List.set_cons_succ, i64_w, i32_w]
                                        rfl
                                      refine pure_ (i := 1) (N := some 66) (v := ?_) (a' := ?_) #[true, true, false, false, false, false, false, false, false, false, false, false, false, false, false, false, false, false] rfl rfl (any_of HT_.out (by kernel_rfl)) (fun _ _ _ h => h) (Or.inl ⟨by rfl, ?_⟩) ?_ ?_
                                      rotate_left
                                      · intro w'
                                        go_simp
                                        with_reducible rfl
                                      rotate_left
                                      · simp only [Act.put, List.setIfInBounds_toArray, List.set_cons_zero, List.set_cons_succ, i64_w, i32_w]
                                        rfl
                                      refine pure_ (i := 2) (N := some 67) (v := ?_) (a' := ?_) #[true, true, true, false, false, false, false, false, false, false, false, false, false, false, false, false, false, false] rfl rfl (any_of HT_.out (by kernel_rfl)) (fun _ _ _ h => h) (Or.inl ⟨by rfl, ?_⟩) ?_ ?_
                                      rotate_left
                                      · intro w'
                                        go_simp
                                        with_reducible rfl
                                      rotate_left
                                      · simp only [Act.put, List.setIfInBounds_toArray, List.set_cons_zero, List.set_cons_succ, i64_w, i32_w]
                                        rfl
                                      refine pure_ (i := 3) (N := some 68) (v := ?_) (a' := ?_) #[true, true, true, true, false, false, false, false, false, false, false, false, false, false, false, false, false, false] rfl rfl (any_of HT_.out (by kernel_rfl)) (fun _ _ _ h => h) (Or.inl ⟨by rfl, ?_⟩) ?_ ?_
                                      rotate_left
                                      · intro w'
                                        go_simp
                                        with_reducible rfl
                                      rotate_left
                                      · simp only [Act.put, List.setIfInBounds_toArray, List.set_cons_zero, List.set_cons_succ, i64_w, i32_w]
                                        rfl
                                      refine pure_ (i := 7) (N := some 72) (v := ?_) (a' := ?_) #[true, true, true, true, false, false, false, true, false, false, false, false, false, false, false, false, false, false] rfl rfl (any_of HT_.out (by kernel_rfl)) (fun _ _ _ h => h) (Or.inl ⟨by rfl, ?_⟩) ?_ ?_
                                      rotate_left
                                      · intro w'
                                        go_simp
                                        with_reducible rfl
                                      rotate_left
                                      · simp only [Act.put, List.setIfInBounds_toArray, List.set_cons_zero, List.set_cons_succ, i64_w, i32_w]
                                        rfl
                                      refine pure_ (i := 8) (N := some 73) (v := ?_) (a' := ?_) #[true, true, true, true, false, false, false, true, true, false, false, false, false, false, false, false, false, false] rfl rfl (any_of HT_.out (by kernel_rfl)) (fun _ _ _ h => h) (Or.inl ⟨by rfl, ?_⟩) ?_ ?_
                                      rotate_left
                                      · intro w'
                                        go_simp
                                        with_reducible rfl
                                      rotate_left
                                      · simp only [Act.put, List.setIfInBounds_toArray, List.set_cons_zero, List.set_cons_succ, i64_w, i32_w]
                                        rfl
                                      refine pure_ (i := 9) (N := some 74) (v := ?_) (a' := ?_) #[true, true, true, true, false, false, false, true, true, true, false, false, false, false, false, false, false, false] rfl rfl (any_of HT_.out (by kernel_rfl)) (fun _ _ _ h => h) (Or.inl ⟨by rfl, ?_⟩) ?_ ?_
                                      rotate_left
                                      · intro w'
                                        go_simp
                                        with_reducible rfl
                                      rotate_left
                                      · simp only [Act.put, List.setIfInBounds_toArray, List.set_cons_zero, List.set_cons_succ, i64_w, i32_w]
                                        rfl
                                      refine pure_ (i := 10) (N := some 75) (v := ?_) (a' := ?_) #[true, true, true, true, false, false, false, true, true, true, true, false, false, false, false, false, false, false] rfl rfl (any_of HT_.out (by kernel_rfl)) (fun _ _ _ h => h) (Or.inl ⟨by rfl, ?_⟩) ?_ ?_
                                      rotate_left
                                      · intro w'
                                        go_simp
                                        with_reducible rfl
                                      rotate_left
                                      · simp only [Act.put, List.setIfInBounds_toArray, List.set_cons_zero, List.set_cons_succ, i64_w, i32_w]
                                        rfl
                                      refine one_ (i := 4) (N := some 69) #[true, true, true, true, true, false, false, true, true, true, true, false, false, false, false, false, false, false] rfl rfl (one_of HT_.out (by kernel_rfl)) (by decide) (fun K hK => ?_)
                                      refine Kd.R_lit_step (Kd.int .u8) _ 5 ?hg (N := 69) ?hd (xs := ([49] : List Int)) (inner := [.int .u8 49]) (ok := fun _ => True) (okp := fun _ => True) ?hr ?hp (fun _ hk => hk) trivial (Below.refl _ _) (Nat.le_refl _) (by simp) ?_; (case hd => rfl); (case hg => rfl); (case hr => first | (go_simp; done) | (go_simp; rfl)); (case hp => exact (Reps.one (show Kd.M (Kd.int .u8) _ _ _ 49 [.int .u8 49] from rfl) (Reps.none _ _)))
                                      intro v163 w56 ho57 hb hg_ hnew_
                                      clear hg_ hnew_
                                      (first | rw [← Ny162.out] at ho57 | (simp only [Int.reduceToNat] at ho57; rw [← Ny162.out] at ho57))
                                      have n0_ := Aside0.mk (Kd.R_lower ho57 (below_size (by repeat (first | (with_reducible first | exact HB.out | apply below_alloc | apply pw_below_drewN | apply below_drew1) | exact HB.out))))
                                      have n1_ := Aside0.mk (below_step (by repeat (first | (with_reducible first | exact HB.out | apply below_alloc | apply pw_below_drewN | apply below_drew1) | exact HB.out)) hb)
                                      clear HB
                                      have HO164 := n0_
                                      have HB := n1_
                                      clear n0_ n1_
                                      clear hb ho57
                                      refine hK.out _ _ trivial (fun hHeld => ?_)
                                      clear hK K
                                      refine norm_ (a' := ?_) ?_ ?_
                                      rotate_left
                                      · show Act.put _ (some 69) _ = _
                                        simp only [Act.put, List.setIfInBounds_toArray, List.set_cons_zero, List.set_cons_succ, i64_w, i32_w]
                                        rfl
                                      refine one_ (i := 5) (N := some 70) #[true, true, true, true, true, true, false, true, true, true, true, false, false, false, false, false, false, false] rfl rfl (one_of HT_.out (by kernel_rfl)) (by decide) (fun K hK => ?_)
                                      have hcv58 := own_string (P := Tryd.prog) Tryd.underlying35 Tryd.underlying5 Tryd.underlying9 (Kd.own_of_R HO164.out)
                                      refine value_ (w1 := ?_) (v := ?_) (by rfl) rfl ?_ ?_
                                      rotate_left 2
                                      · go_simp
                                        constructor
                                        · rfl
                                        · rfl
                                      clear hcv58
                                      refine hK.out _ _ trivial (fun hHeld => ?_)
                                      clear hK K
                                      refine norm_ (a' := ?_) ?_ ?_
                                      rotate_left
                                      · show Act.put _ (some 70) _ = _
                                        simp only [Act.put, List.setIfInBounds_toArray, List.set_cons_zero, List.set_cons_succ, i64_w, i32_w]
                                        rfl
                                      refine pure_ (i := 6) (N := some 71) (v := ?_) (a' := ?_) #[true, true, true, true, true, true, true, true, true, true, true, false, false, false, false, false, false, false] rfl rfl (any_of HT_.out (by kernel_rfl)) (fun _ _ _ h => h) (Or.inl ⟨by rfl, ?_⟩) ?_ ?_
                                      rotate_left
                                      · intro w'
                                        go_simp
                                        with_reducible rfl
                                      rotate_left
                                      · simp only [Act.put, List.setIfInBounds_toArray, List.set_cons_zero, List.set_cons_succ, i64_w, i32_w]
                                        rfl
                                      refine pure_ (i := 11) (N := some 76) (v := ?_) (a' := ?_) #[true, true, true, true, true, true, true, true, true, true, true, true, false, false, false, false, false, false] rfl rfl (any_of HT_.out (by kernel_rfl)) (fun _ _ _ h => h) (Or.inl ⟨by rfl, ?_⟩) ?_ ?_
                                      rotate_left
                                      · intro w'
                                        go_simp
                                        with_reducible rfl
                                      rotate_left
                                      · simp only [Act.put, List.setIfInBounds_toArray, List.set_cons_zero, List.set_cons_succ, i64_w, i32_w]
                                        rfl
                                      refine one_ (i := 12) (N := some 77) #[true, true, true, true, true, true, true, true, true, true, true, true, true, false, false, false, false, false] rfl rfl (one_of HT_.out (by kernel_rfl)) (by decide) (fun K hK => ?_)
                                      refine goes_ Tryd.func26 (by kernel_rfl) rfl #[.string (((t149.extract 0 ((ji26) : Int).toNat) ++ (strOfNums y162)) ++ (t149.extract ((ji34) : Int).toNat t149.size))] (by rfl) rfl rfl (by (try simp only [List.map_toArray, List.map_cons, List.map_nil]); first | done | (simp only [hji26, hji34]; rfl) | rfl | (simp only [List.length_drop, List.length_take]; rfl)) ?_
                                      with_reducible refine (macs_Parse.calls k2 (((t149.extract 0 ((ji26) : Int).toNat) ++ (strOfNums y162)) ++ (t149.extract ((ji34) : Int).toNat t149.size)) t165 false _ A38.out).mono ?_
                                      rintro e w59 ⟨rfl, hb⟩
                                      refine ⟨_, rfl, ?_⟩
                                      have n0_ := Aside0.mk (Kd.R_below (by (with_reducible repeat (first | apply Kd.R_alloc | apply Kd.R_drewN | apply Kd.R_drew)); exact HO164.out) hb)
                                      have n1_ := Aside0.mk (below_step (by repeat (first | (with_reducible first | exact HB.out | apply below_alloc | apply pw_below_drewN | apply below_drew1) | exact HB.out)) hb)
                                      clear HO164
                                      clear HB
                                      have HO164 := n0_
                                      have HB := n1_
                                      clear n0_ n1_
                                      (try clear hb)
                                      (try clear hb2)
                                      (try clear hk)
                                      (try clear hi)
                                      refine hK.out _ _ trivial (fun hHeld => ?_)
                                      clear hK K
                                      refine norm_ (a' := ?_) ?_ ?_
                                      rotate_left
                                      · show Act.put _ (some 77) _ = _
                                        simp only [Act.put, List.setIfInBounds_toArray, List.set_cons_zero, List.set_cons_succ, i64_w, i32_w]
                                        rfl
                                      refine pure_ (i := 13) (N := some 64) (v := ?_) (a' := ?_) #[true, true, true, true, true, true, true, true, true, true, true, true, true, true, false, false, false, false] rfl rfl (any_of HT_.out (by kernel_rfl)) (fun _ _ _ h => h) (Or.inl ⟨by rfl, ?_⟩) ?_ ?_
                                      rotate_left
                                      · intro w'
                                        go_simp
                                        with_reducible rfl
                                      rotate_left
                                      · simp only [Act.put, List.setIfInBounds_toArray, List.set_cons_zero, List.set_cons_succ, i64_w, i32_w]
                                        rfl
                                      refine pure_ (i := 14) (N := some 78) (v := ?_) (a' := ?_) #[true, true, true, true, true, true, true, true, true, true, true, true, true, true, true, false, false, false] rfl rfl (any_of HT_.out (by kernel_rfl)) (fun _ _ _ h => h) (Or.inl ⟨by rfl, ?_⟩) ?_ ?_
                                      rotate_left
                                      · intro w'
                                        go_simp
                                        with_reducible rfl
                                      rotate_left
                                      · simp only [Act.put, List.setIfInBounds_toArray, List.set_cons_zero, List.set_cons_succ, i64_w, i32_w]
                                        rfl
                                      refine pure_ (i := 15) (N := some 79) (v := ?_) (a' := ?_) #[true, true, true, true, true, true, true, true, true, true, true, true, true, true, true, true, false, false] rfl rfl (any_of HT_.out (by kernel_rfl)) (fun _ _ _ h => h) (Or.inl ⟨by rfl, ?_⟩) ?_ ?_
                                      rotate_left
                                      · intro w'
                                        go_simp
                                        with_reducible rfl
                                      rotate_left
                                      · simp only [Act.put, List.setIfInBounds_toArray, List.set_cons_zero, List.set_cons_succ, i64_w, i32_w]
                                        rfl
                                      refine pure_ (i := 16) (N := some 14) (v := ?_) (a' := ?_) #[true, true, true, true, true, true, true, true, true, true, true, true, true, true, true, true, true, false] rfl rfl (any_of HT_.out (by kernel_rfl)) (fun _ _ _ h => h) (Or.inl ⟨by rfl, ?_⟩) ?_ ?_
                                      rotate_left
                                      · intro w'
                                        go_simp
                                        with_reducible rfl
                                      rotate_left
                                      · simp only [Act.put, List.setIfInBounds_toArray, List.set_cons_zero, List.set_cons_succ, i64_w, i32_w]
                                        rfl
                                      refine pure_ (i := 17) (N := some 15) (v := ?_) (a' := ?_) #[true, true, true, true, true, true, true, true, true, true, true, true, true, true, true, true, true, true] rfl rfl (any_of HT_.out (by kernel_rfl)) (fun _ _ _ h => h) (Or.inl ⟨by rfl, ?_⟩) ?_ ?_
                                      rotate_left
                                      · intro w'
                                        go_simp
                                        with_reducible rfl
                                      rotate_left
                                      · simp only [Act.put, List.setIfInBounds_toArray, List.set_cons_zero, List.set_cons_succ, i64_w, i32_w]
                                        rfl
                                      refine done_ (done_of HT_.out (by kernel_rfl)) ?_
                                      have p41 : 0 ≤ ((ji26) : Int) := of_decide_eq_true (by first | (with_reducible assumption) | assumption)
                                      have q41 : (ji26) < (t149.size : Int) := of_decide_eq_true (by first | (with_reducible assumption) | assumption)
                                      have hx41 := bt_at t149 (ji26)
                                      replace p41 := eq_true p41
                                      replace q41 := eq_true q41
                                      try go_wp2_with (first | (go_at_call 28; (with_reducible refine (glebelaw5_awake.calls k2  t168 _ A53.out).mono ?_); rintro e w60 ⟨rfl, hb⟩; have n0_ := Aside0.mk (Kd.R_below (by (with_reducible repeat (first | apply Kd.R_alloc | apply Kd.R_drewN | apply Kd.R_drew)); exact HO164.out) hb); have n1_ := Aside0.mk (below_step (by repeat (first | (with_reducible first | exact HB.out | apply below_alloc | apply pw_below_drewN | apply below_drew1) | exact HB.out)) hb); clear HO164; clear HB; have HO164 := n0_; have HB := n1_; clear n0_ n1_; (try clear hb); (try clear hb2); (try clear hk); (try clear hi)))
                                      go_ret
                                      exact ⟨by first | rfl | (simp [errW_none, errW_some] <;> rfl) | (simp only [← hji26, ← hji34]; first | rfl | (simp [errW_none, errW_some] <;> rfl)) | (simp [*, errW_none, errW_some] <;> rfl), by repeat (first | (with_reducible first | exact HB.out | apply below_alloc | apply pw_below_drewN | apply below_drew1) | exact HB.out)⟩
                                  · rw [if_neg c42] at H
                                    exact absurd H (by simp)
                                · rw [if_neg c40] at H
                                  exact absurd H (by simp)
                              · replace c39 := Bool.eq_false_iff.mpr c39
                                subst c39
                                have H1 : (none) = some r := by rw [if_neg (show ¬ (false = true) by decide)] at H; exact H
                                clear H
                                have H := H1
                                clear H1
                                exact absurd H (by simp)
                            · rw [if_neg c37] at H
                              exact absurd H (by simp)
                          · rw [if_neg c36] at H
                            exact absurd H (by simp)
                        · rw [if_neg c35] at H
                          exact absurd H (by simp)
                      · rw [if_neg c33] at H
                        exact absurd H (by simp)
                    · rw [if_neg c32] at H
                      exact absurd H (by simp)
                  · rw [if_neg c30] at H
                    have c30b0 : ((bt t149 (ji26)) == 48) = false := beq_eq_false_iff_ne.mpr c30
                    have c30b1 : ((bt t149 (ji26)) != 48) = true := bne_iff_ne.mpr c30
                    have c61b0 := eq_true (of_decide_eq_true (by first | (with_reducible assumption) | assumption) : 0 ≤ (ji26))
                    by_cases c62 : (ji26) ≤ (t149.size : Int)
                    · rw [if_pos c62] at H
                      have c62b0 := eq_true c62
                      have c62b1 : decide ((ji26) ≤ (t149.size : Int)) = true := decide_eq_true c62
                      clear c62
                      obtain ⟨y169, hy169⟩ : ∃ y_ : List Int, y_ = (([48] : List Int)) := ⟨_, rfl⟩
                      replace H : (if (t149.extract 0 ((ji26) : Int).toNat).size + (strOfNums y169).size ≤ 9223372036854775807 then (if 0 ≤ (wrap64 ((ji26) + 1)) then (if (wrap64 ((ji26) + 1)) ≤ (t149.size : Int) then (if (t149.extract 0 ((ji26) : Int).toNat).size + (strOfNums y169).size + (t149.extract ((wrap64 ((ji26) + 1)) : Int).toNat t149.size).size ≤ 9223372036854775807 then ((macs_Parse.f k2 (((t149.extract 0 ((ji26) : Int).toNat) ++ (strOfNums y169)) ++ (t149.extract ((wrap64 ((ji26) + 1)) : Int).toNat t149.size))).bind fun bt172 => (if t161 = true then (if t160 = (Go.bits .and .u64 a0 281474976710655) then (if (bt172.2 == ((bt t149 (ji26)) != 58)) = true then (if bt172.2 = true then (if bt172.1 = (Go.bits .and .u64 a0 281474976710655) then (none) else ((glebelaw5_awake.f k2).bind fun t174 => (some t174))) else ((glebelaw5_awake.f k2).bind fun t175 => (some t175))) else (none)) else (none)) else (none))) else (none)) else (none)) else (none)) else (none)) = some r := by first | (rw [hy169]; with_reducible exact H) | (have H2_ := (Option.bind_some _ _).symm.trans H; rw [hy169]; with_reducible exact H2_) | (have H2_ := (Option.bind_some _ _).symm.trans H; with_reducible exact H2_) | with_reducible exact H | (rw [hy169]; exact H) | exact H
                      have Ny169 := Aside0.mk hy169
                      clear hy169
                      by_cases c63 : (t149.extract 0 ((ji26) : Int).toNat).size + (strOfNums y169).size ≤ 9223372036854775807
                      · rw [if_pos c63] at H
                        have c63b0 := eq_true c63
                        have c63b1 : decide ((t149.extract 0 ((ji26) : Int).toNat).size + (strOfNums y169).size ≤ 9223372036854775807) = true := decide_eq_true c63
                        try have c63b2 : (9223372036854775807 < (t149.extract 0 ((ji26) : Int).toNat).size + (strOfNums y169).size) = False := eq_false (Nat.not_lt.2 c63)
                        try have c63b3 : (9223372036854775807 < ((ji26) : Int).toNat + (strOfNums y169).size) = False := eq_false (Nat.not_lt.2 (by have h_ := c63; simp only [ByteArray.size_extract] at h_; have h0_ : (ji26) ≤ (t149.size : Int) := of_decide_eq_true (by first | (with_reducible assumption) | assumption); omega))
                        obtain ⟨ji64, hji64⟩ : ∃ j_ : Int, (wrap64 ((ji26) + 1)) = j_ := ⟨_, rfl⟩
                        replace H : (if 0 ≤ (ji64) then (if (ji64) ≤ (t149.size : Int) then (if (t149.extract 0 ((ji26) : Int).toNat).size + (strOfNums y169).size + (t149.extract ((ji64) : Int).toNat t149.size).size ≤ 9223372036854775807 then ((macs_Parse.f k2 (((t149.extract 0 ((ji26) : Int).toNat) ++ (strOfNums y169)) ++ (t149.extract ((ji64) : Int).toNat t149.size))).bind fun bt172 => (if t161 = true then (if t160 = (Go.bits .and .u64 a0 281474976710655) then (if (bt172.2 == ((bt t149 (ji26)) != 58)) = true then (if bt172.2 = true then (if bt172.1 = (Go.bits .and .u64 a0 281474976710655) then (none) else ((glebelaw5_awake.f k2).bind fun t174 => (some t174))) else ((glebelaw5_awake.f k2).bind fun t175 => (some t175))) else (none)) else (none)) else (none))) else (none)) else (none)) else (none)) = some r := by first | (rw [hji64] at H; exact H) | (simp only [hji64] at H ⊢; exact H)
                        (try rw [hji64] at A25)
                        have hji64w : (IntKind.i64.wrap ((ji26) + 1)) = ji64 := (i64_w _).trans hji64
                        by_cases c65 : 0 ≤ (ji64)
                        · rw [if_pos c65] at H
                          have c65b0 := eq_true c65
                          have c65b1 : decide (0 ≤ (ji64)) = true := decide_eq_true c65
                          clear c65
                          by_cases c66 : (ji64) ≤ (t149.size : Int)
                          · rw [if_pos c66] at H
                            have c66b0 := eq_true c66
                            have c66b1 : decide ((ji64) ≤ (t149.size : Int)) = true := decide_eq_true c66
                            clear c66
                            by_cases c67 : (t149.extract 0 ((ji26) : Int).toNat).size + (strOfNums y169).size + (t149.extract ((ji64) : Int).toNat t149.size).size ≤ 9223372036854775807
                            · rw [if_pos c67] at H
                              have c67b0 := eq_true c67
                              have c67b1 : decide ((t149.extract 0 ((ji26) : Int).toNat).size + (strOfNums y169).size + (t149.extract ((ji64) : Int).toNat t149.size).size ≤ 9223372036854775807) = true := decide_eq_true c67
                              try have c67b2 : (9223372036854775807 < (t149.extract 0 ((ji26) : Int).toNat).size + (strOfNums y169).size + (t149.extract ((ji64) : Int).toNat t149.size).size) = False := eq_false (Nat.not_lt.2 c67)
                              try have c67b3 : (9223372036854775807 < ((ji26) : Int).toNat + (strOfNums y169).size + (t149.size - ((ji64) : Int).toNat)) = False := eq_false (Nat.not_lt.2 (by have h_ := c67; simp only [ByteArray.size_extract] at h_; have h0_ : (ji26) ≤ (t149.size : Int) := of_decide_eq_true (by first | (with_reducible assumption) | assumption); omega))
                              replace H := Option.bind_eq_some_iff.mp H
                              obtain ⟨⟨t172, t173⟩, A680, H⟩ := H
                              replace H : (if t161 = true then (if t160 = (Go.bits .and .u64 a0 281474976710655) then (if (t173 == ((bt t149 (ji26)) != 58)) = true then (if t173 = true then (if t172 = (Go.bits .and .u64 a0 281474976710655) then (none) else ((glebelaw5_awake.f k2).bind fun t174 => (some t174))) else ((glebelaw5_awake.f k2).bind fun t175 => (some t175))) else (none)) else (none)) else (none)) = some r := H
                              have A68 := Aside0.mk A680
                              clear A680
                              by_cases c69 : t161 = true
                              · subst c69
                                have H1 : (if t160 = (Go.bits .and .u64 a0 281474976710655) then (if (t173 == ((bt t149 (ji26)) != 58)) = true then (if t173 = true then (if t172 = (Go.bits .and .u64 a0 281474976710655) then (none) else ((glebelaw5_awake.f k2).bind fun t174 => (some t174))) else ((glebelaw5_awake.f k2).bind fun t175 => (some t175))) else (none)) else (none)) = some r := by rw [if_pos rfl] at H; exact H
                                clear H
                                have H := H1
                                clear H1
                                by_cases c70 : t160 = (Go.bits .and .u64 a0 281474976710655)
                                · rw [if_pos c70] at H
                                  have c70b0 : (t160 == (Go.bits .and .u64 a0 281474976710655)) = true := beq_iff_eq.mpr c70
                                  have c70b1 : (t160 != (Go.bits .and .u64 a0 281474976710655)) = false := bne_eq_false_iff_eq.mpr c70
                                  clear c70
                                  by_cases c72 : (t173 == ((bt t149 (ji26)) != 58)) = true
                                  · rw [if_pos c72] at H
                                    have c72b0 : (t173 == ((bt t149 (ji26)) != 58)) = true := c72
                                    (try (have c72b1 : decide (t173 = ((bt t149 (ji26)) != 58)) = true := by simpa using c72))
                                    (try (have c72b2 : (t173 == ((bt t149 (ji26)) != 58)) = true := by simpa using c72))
                                    clear c72
                                    by_cases c73 : t173 = true
                                    · subst c73
                                      have H1 : (if t172 = (Go.bits .and .u64 a0 281474976710655) then (none) else ((glebelaw5_awake.f k2).bind fun t174 => (some t174))) = some r := by rw [if_pos rfl] at H; exact H
                                      clear H
                                      have H := H1
                                      clear H1
                                      by_cases c74 : t172 = (Go.bits .and .u64 a0 281474976710655)
                                      · rw [if_pos c74] at H
                                        exact absurd H (by simp)
                                      · rw [if_neg c74] at H
                                        have c74b0 : (t172 == (Go.bits .and .u64 a0 281474976710655)) = false := beq_eq_false_iff_ne.mpr c74
                                        have c74b1 : (t172 != (Go.bits .and .u64 a0 281474976710655)) = true := bne_iff_ne.mpr c74
                                        replace H := Option.bind_eq_some_iff.mp H
                                        obtain ⟨t174, A750, H⟩ := H
                                        replace H : (some t174) = some r := H
                                        have A75 := Aside0.mk A750
                                        clear A750
                                        obtain rfl := Option.some.inj H
                                        try go_wp2_with (first | ((with_reducible refine gate_callee (f := 26) rfl ?_); refine goesL_ (some 54) rfl rfl Tryd.func26 (by kernel_rfl) rfl #[.string x7_2] rfl (by (try simp only [List.map_toArray, List.map_cons, List.map_nil]); first | done | rfl | (simp only [List.length_drop, List.length_take]; rfl)) ?_; (with_reducible refine (macs_Parse.calls k2 x7_2 t160 true _ A25.out).mono ?_); rintro e w76 ⟨rfl, hb⟩; refine ⟨_, rfl, ?_⟩; have n0_ := Aside0.mk (below_step (by repeat (first | (with_reducible first | exact HB.out | apply below_alloc | apply pw_below_drewN | apply below_drew1) | exact HB.out)) hb); clear HB; have HB := n0_; clear n0_; (try clear hb); (try clear hb2); (try clear hk); (try clear hi); have p29 : 0 ≤ ((ji26) : Int) := of_decide_eq_true (by first | (with_reducible assumption) | assumption); have q29 : (ji26) < (t149.size : Int) := of_decide_eq_true (by first | (with_reducible assumption) | assumption); have hx29 := bt_at t149 (ji26); replace p29 := eq_true p29; replace q29 := eq_true q29))
                                        have n0_ := Aside0.mk (below_drew1 HB.out)
                                        clear HB
                                        have HB := n0_
                                        clear n0_
                                        refine start_ (n := 18) (S := fun w' => True) (ds := []) #[false, false, false, false, false, false, false, false, false, false, false, false, false, false, false, false, false, false] (by kernel_rfl) rfl rfl trivial (fun hHeld => ?_); refine with_tabW glebelaw5_MacsOne.tab18 glebelaw5_MacsOne.bits18 (fun HT_ HW_ => ?_)
                                        generalize w76.drew = w77 at HB hHeld ⊢
                                        refine pure_ (i := 0) (N := some 65) (v := ?_) (a' := ?_) #[true, false, false, false, false, false, false, false, false, false, false, false, false, false, false, false, false, false] rfl rfl (any_of HT_.out (by kernel_rfl)) (fun _ _ _ h => h) (Or.inl ⟨by rfl, ?_⟩) ?_ ?_
                                        rotate_left
                                        · intro w'
                                          go_simp
                                          with_reducible rfl
                                        rotate_left
                                        · simp only [Act.put, List.setIfInBounds_toArray, List.set_cons_zero, List.set_cons_succ, i64_w, i32_w]
                                          rfl
                                        refine pure_ (i := 1) (N := some 66) (v := ?_) (a' := ?_) #[true, true, false, false, false, false, false, false, false, false, false, false, false, false, false, false, false, false] rfl rfl (any_of HT_.out (by kernel_rfl)) (fun _ _ _ h => h) (Or.inl ⟨by rfl, ?_⟩) ?_ ?_
                                        rotate_left
                                        · intro w'
                                          go_simp
                                          with_reducible rfl
                                        rotate_left
                                        · simp only [Act.put, List.setIfInBounds_toArray, List.set_cons_zero, List.set_cons_succ, i64_w, i32_w]
                                          rfl
                                        refine pure_ (i := 2) (N := some 67) (v := ?_) (a' := ?_) #[true, true, true, false, false, false, false, false, false, false, false, false, false, false, false, false, false, false] rfl rfl (any_of HT_.out (by kernel_rfl)) (fun _ _ _ h => h) (Or.inl ⟨by rfl, ?_⟩) ?_ ?_
                                        rotate_left
                                        · intro w'
                                          go_simp
                                          with_reducible rfl
                                        rotate_left
                                        · simp only [Act.put, List.setIfInBounds_toArray, List.set_cons_zero, List.set_cons_succ, i64_w, i32_w]
                                          rfl
                                        refine pure_ (i := 3) (N := some 68) (v := ?_) (a' := ?_) #[true, true, true, true, false, false, false, false, false, false, false, false, false, false, false, false, false, false] rfl rfl (any_of HT_.out (by kernel_rfl)) (fun _ _ _ h => h) (Or.inl ⟨by rfl, ?_⟩) ?_ ?_
                                        rotate_left
                                        · intro w'
                                          go_simp
                                          with_reducible rfl
                                        rotate_left
                                        · simp only [Act.put, List.setIfInBounds_toArray, List.set_cons_zero, List.set_cons_succ, i64_w, i32_w]
                                          rfl
                                        refine pure_ (i := 7) (N := some 72) (v := ?_) (a' := ?_) #[true, true, true, true, false, false, false, true, false, false, false, false, false, false, false, false, false, false] rfl rfl (any_of HT_.out (by kernel_rfl)) (fun _ _ _ h => h) (Or.inl ⟨by rfl, ?_⟩) ?_ ?_
                                        rotate_left
                                        · intro w'
                                          go_simp
                                          with_reducible rfl
                                        rotate_left
                                        · simp only [Act.put, List.setIfInBounds_toArray, List.set_cons_zero, List.set_cons_succ, i64_w, i32_w]
                                          rfl
                                        refine pure_ (i := 8) (N := some 73) (v := ?_) (a' := ?_) #[true, true, true, true, false, false, false, true, true, false, false, false, false, false, false, false, false, false] rfl rfl (any_of HT_.out (by kernel_rfl)) (fun _ _ _ h => h) (Or.inl ⟨by rfl, ?_⟩) ?_ ?_
                                        rotate_left
                                        · intro w'
                                          go_simp
                                          with_reducible rfl
                                        rotate_left
                                        · simp only [Act.put, List.setIfInBounds_toArray, List.set_cons_zero, List.set_cons_succ, i64_w, i32_w]
                                          rfl
                                        refine pure_ (i := 9) (N := some 74) (v := ?_) (a' := ?_) #[true, true, true, true, false, false, false, true, true, true, false, false, false, false, false, false, false, false] rfl rfl (any_of HT_.out (by kernel_rfl)) (fun _ _ _ h => h) (Or.inl ⟨by rfl, ?_⟩) ?_ ?_
                                        rotate_left
                                        · intro w'
                                          go_simp
                                          with_reducible rfl
                                        rotate_left
                                        · simp only [Act.put, List.setIfInBounds_toArray, List.set_cons_zero, List.set_cons_succ, i64_w, i32_w]
                                          rfl
                                        refine pure_ (i := 10) (N := some 75) (v := ?_) (a' := ?_) #[true, true, true, true, false, false, false, true, true, true, true, false, false, false, false, false, false, false] rfl rfl (any_of HT_.out (by kernel_rfl)) (fun _ _ _ h => h) (Or.inl ⟨by rfl, ?_⟩) ?_ ?_
                                        rotate_left
                                        · intro w'
                                          go_simp
                                          with_reducible rfl
                                        rotate_left
                                        · simp only [Act.put, List.setIfInBounds_toArray, List.set_cons_zero, List.set_cons_succ, i64_w, i32_w]
                                          rfl
                                        refine one_ (i := 4) (N := some 69) #[true, true, true, true, true, false, false, true, true, true, true, false, false, false, false, false, false, false] rfl rfl (one_of HT_.out (by kernel_rfl)) (by decide) (fun K hK => ?_)
                                        refine Kd.R_lit_step (Kd.int .u8) _ 5 ?hg (N := 69) ?hd (xs := ([48] : List Int)) (inner := [.int .u8 48]) (ok := fun _ => True) (okp := fun _ => True) ?hr ?hp (fun _ hk => hk) trivial (Below.refl _ _) (Nat.le_refl _) (by simp) ?_; (case hd => rfl); (case hg => rfl); (case hr => first | (go_simp; done) | (go_simp; rfl)); (case hp => exact (Reps.one (show Kd.M (Kd.int .u8) _ _ _ 48 [.int .u8 48] from rfl) (Reps.none _ _)))
                                        intro v170 w78 ho79 hb hg_ hnew_
                                        clear hg_ hnew_
                                        (first | rw [← Ny169.out] at ho79 | (simp only [Int.reduceToNat] at ho79; rw [← Ny169.out] at ho79))
                                        have n0_ := Aside0.mk (Kd.R_lower ho79 (below_size (by repeat (first | (with_reducible first | exact HB.out | apply below_alloc | apply pw_below_drewN | apply below_drew1) | exact HB.out))))
                                        have n1_ := Aside0.mk (below_step (by repeat (first | (with_reducible first | exact HB.out | apply below_alloc | apply pw_below_drewN | apply below_drew1) | exact HB.out)) hb)
                                        clear HB
                                        have HO171 := n0_
                                        have HB := n1_
                                        clear n0_ n1_
                                        clear hb ho79
                                        refine hK.out _ _ trivial (fun hHeld => ?_)
                                        clear hK K
                                        refine norm_ (a' := ?_) ?_ ?_
                                        rotate_left
                                        · show Act.put _ (some 69) _ = _
                                          simp only [Act.put, List.setIfInBounds_toArray, List.set_cons_zero, List.set_cons_succ, i64_w, i32_w]
                                          rfl
                                        refine one_ (i := 5) (N := some 70) #[true, true, true, true, true, true, false, true, true, true, true, false, false, false, false, false, false, false] rfl rfl (one_of HT_.out (by kernel_rfl)) (by decide) (fun K hK => ?_)
                                        have hcv80 := own_string (P := Tryd.prog) Tryd.underlying35 Tryd.underlying5 Tryd.underlying9 (Kd.own_of_R HO171.out)
                                        refine value_ (w1 := ?_) (v := ?_) (by rfl) rfl ?_ ?_
                                        rotate_left 2
                                        · go_simp
                                          constructor
                                          · rfl
                                          · rfl
                                        clear hcv80
                                        refine hK.out _ _ trivial (fun hHeld => ?_)
                                        clear hK K
                                        refine norm_ (a' := ?_) ?_ ?_
                                        rotate_left
                                        · show Act.put _ (some 70) _ = _
                                          simp only [Act.put, List.setIfInBounds_toArray, List.set_cons_zero, List.set_cons_succ, i64_w, i32_w]
                                          rfl
                                        refine pure_ (i := 6) (N := some 71) (v := ?_) (a' := ?_) #[true, true, true, true, true, true, true, true, true, true, true, false, false, false, false, false, false, false] rfl rfl (any_of HT_.out (by kernel_rfl)) (fun _ _ _ h => h) (Or.inl ⟨by rfl, ?_⟩) ?_ ?_
                                        rotate_left
                                        · intro w'
                                          go_simp
                                          with_reducible rfl
                                        rotate_left
                                        · simp only [Act.put, List.setIfInBounds_toArray, List.set_cons_zero, List.set_cons_succ, i64_w, i32_w]
                                          rfl
                                        refine pure_ (i := 11) (N := some 76) (v := ?_) (a' := ?_) #[true, true, true, true, true, true, true, true, true, true, true, true, false, false, false, false, false, false] rfl rfl (any_of HT_.out (by kernel_rfl)) (fun _ _ _ h => h) (Or.inl ⟨by rfl, ?_⟩) ?_ ?_
                                        rotate_left
                                        · intro w'
                                          go_simp
                                          with_reducible rfl
                                        rotate_left
                                        · simp only [Act.put, List.setIfInBounds_toArray, List.set_cons_zero, List.set_cons_succ, i64_w, i32_w]
                                          rfl
                                        refine one_ (i := 12) (N := some 77) #[true, true, true, true, true, true, true, true, true, true, true, true, true, false, false, false, false, false] rfl rfl (one_of HT_.out (by kernel_rfl)) (by decide) (fun K hK => ?_)
                                        refine goes_ Tryd.func26 (by kernel_rfl) rfl #[.string (((t149.extract 0 ((ji26) : Int).toNat) ++ (strOfNums y169)) ++ (t149.extract ((ji64) : Int).toNat t149.size))] (by rfl) rfl rfl (by (try simp only [List.map_toArray, List.map_cons, List.map_nil]); first | done | (simp only [hji26, hji64]; rfl) | rfl | (simp only [List.length_drop, List.length_take]; rfl)) ?_
                                        with_reducible refine (macs_Parse.calls k2 (((t149.extract 0 ((ji26) : Int).toNat) ++ (strOfNums y169)) ++ (t149.extract ((ji64) : Int).toNat t149.size)) t172 true _ A68.out).mono ?_
                                        rintro e w81 ⟨rfl, hb⟩
                                        refine ⟨_, rfl, ?_⟩
                                        have n0_ := Aside0.mk (Kd.R_below (by (with_reducible repeat (first | apply Kd.R_alloc | apply Kd.R_drewN | apply Kd.R_drew)); exact HO171.out) hb)
                                        have n1_ := Aside0.mk (below_step (by repeat (first | (with_reducible first | exact HB.out | apply below_alloc | apply pw_below_drewN | apply below_drew1) | exact HB.out)) hb)
                                        clear HO171
                                        clear HB
                                        have HO171 := n0_
                                        have HB := n1_
                                        clear n0_ n1_
                                        (try clear hb)
                                        (try clear hb2)
                                        (try clear hk)
                                        (try clear hi)
                                        refine hK.out _ _ trivial (fun hHeld => ?_)
                                        clear hK K
                                        refine norm_ (a' := ?_) ?_ ?_
                                        rotate_left
                                        · show Act.put _ (some 77) _ = _
                                          simp only [Act.put, List.setIfInBounds_toArray, List.set_cons_zero, List.set_cons_succ, i64_w, i32_w]
                                          rfl
                                        refine pure_ (i := 13) (N := some 64) (v := ?_) (a' := ?_) #[true, true, true, true, true, true, true, true, true, true, true, true, true, true, false, false, false, false] rfl rfl (any_of HT_.out (by kernel_rfl)) (fun _ _ _ h => h) (Or.inl ⟨by rfl, ?_⟩) ?_ ?_
                                        rotate_left
                                        · intro w'
                                          go_simp
                                          with_reducible rfl
                                        rotate_left
                                        · simp only [Act.put, List.setIfInBounds_toArray, List.set_cons_zero, List.set_cons_succ, i64_w, i32_w]
                                          rfl
                                        refine pure_ (i := 14) (N := some 78) (v := ?_) (a' := ?_) #[true, true, true, true, true, true, true, true, true, true, true, true, true, true, true, false, false, false] rfl rfl (any_of HT_.out (by kernel_rfl)) (fun _ _ _ h => h) (Or.inl ⟨by rfl, ?_⟩) ?_ ?_
                                        rotate_left
                                        · intro w'
                                          go_simp
                                          with_reducible rfl
                                        rotate_left
                                        · simp only [Act.put, List.setIfInBounds_toArray, List.set_cons_zero, List.set_cons_succ, i64_w, i32_w]
                                          rfl
                                        refine pure_ (i := 15) (N := some 79) (v := ?_) (a' := ?_) #[true, true, true, true, true, true, true, true, true, true, true, true, true, true, true, true, false, false] rfl rfl (any_of HT_.out (by kernel_rfl)) (fun _ _ _ h => h) (Or.inl ⟨by rfl, ?_⟩) ?_ ?_
                                        rotate_left
                                        · intro w'
                                          go_simp
                                          with_reducible rfl
                                        rotate_left
                                        · simp only [Act.put, List.setIfInBounds_toArray, List.set_cons_zero, List.set_cons_succ, i64_w, i32_w]
                                          rfl
                                        refine pure_ (i := 16) (N := some 14) (v := ?_) (a' := ?_) #[true, true, true, true, true, true, true, true, true, true, true, true, true, true, true, true, true, false] rfl rfl (any_of HT_.out (by kernel_rfl)) (fun _ _ _ h => h) (Or.inl ⟨by rfl, ?_⟩) ?_ ?_
                                        rotate_left
                                        · intro w'
                                          go_simp
                                          with_reducible rfl
                                        rotate_left
                                        · simp only [Act.put, List.setIfInBounds_toArray, List.set_cons_zero, List.set_cons_succ, i64_w, i32_w]
                                          rfl
                                        refine pure_ (i := 17) (N := some 15) (v := ?_) (a' := ?_) #[true, true, true, true, true, true, true, true, true, true, true, true, true, true, true, true, true, true] rfl rfl (any_of HT_.out (by kernel_rfl)) (fun _ _ _ h => h) (Or.inl ⟨by rfl, ?_⟩) ?_ ?_
                                        rotate_left
                                        · intro w'
                                          go_simp
                                          with_reducible rfl
                                        rotate_left
                                        · simp only [Act.put, List.setIfInBounds_toArray, List.set_cons_zero, List.set_cons_succ, i64_w, i32_w]
                                          rfl
                                        refine done_ (done_of HT_.out (by kernel_rfl)) ?_
                                        have p71 : 0 ≤ ((ji26) : Int) := of_decide_eq_true (by first | (with_reducible assumption) | assumption)
                                        have q71 : (ji26) < (t149.size : Int) := of_decide_eq_true (by first | (with_reducible assumption) | assumption)
                                        have hx71 := bt_at t149 (ji26)
                                        replace p71 := eq_true p71
                                        replace q71 := eq_true q71
                                        try go_wp2_with (first | (go_at_call 28; (with_reducible refine (glebelaw5_awake.calls k2  t174 _ A75.out).mono ?_); rintro e w82 ⟨rfl, hb⟩; have n0_ := Aside0.mk (Kd.R_below (by (with_reducible repeat (first | apply Kd.R_alloc | apply Kd.R_drewN | apply Kd.R_drew)); exact HO171.out) hb); have n1_ := Aside0.mk (below_step (by repeat (first | (with_reducible first | exact HB.out | apply below_alloc | apply pw_below_drewN | apply below_drew1) | exact HB.out)) hb); clear HO171; clear HB; have HO171 := n0_; have HB := n1_; clear n0_ n1_; (try clear hb); (try clear hb2); (try clear hk); (try clear hi)))
                                        go_ret
                                        exact ⟨by first | rfl | (simp [errW_none, errW_some] <;> rfl) | (simp only [← hji26, ← hji64]; first | rfl | (simp [errW_none, errW_some] <;> rfl)) | (simp [*, errW_none, errW_some] <;> rfl), by repeat (first | (with_reducible first | exact HB.out | apply below_alloc | apply pw_below_drewN | apply below_drew1) | exact HB.out)⟩
                                    · replace c73 := Bool.eq_false_iff.mpr c73
                                      subst c73
                                      have H1 : ((glebelaw5_awake.f k2).bind fun t175 => (some t175)) = some r := by rw [if_neg (show ¬ (false = true) by decide)] at H; exact H
                                      clear H
                                      have H := H1
                                      clear H1
                                      replace H := Option.bind_eq_some_iff.mp H
                                      obtain ⟨t175, A830, H⟩ := H
                                      replace H : (some t175) = some r := H
                                      have A83 := Aside0.mk A830
                                      clear A830
                                      obtain rfl := Option.some.inj H
                                      try go_wp2_with (first | ((with_reducible refine gate_callee (f := 26) rfl ?_); refine goesL_ (some 54) rfl rfl Tryd.func26 (by kernel_rfl) rfl #[.string x7_2] rfl (by (try simp only [List.map_toArray, List.map_cons, List.map_nil]); first | done | rfl | (simp only [List.length_drop, List.length_take]; rfl)) ?_; (with_reducible refine (macs_Parse.calls k2 x7_2 t160 true _ A25.out).mono ?_); rintro e w84 ⟨rfl, hb⟩; refine ⟨_, rfl, ?_⟩; have n0_ := Aside0.mk (below_step (by repeat (first | (with_reducible first | exact HB.out | apply below_alloc | apply pw_below_drewN | apply below_drew1) | exact HB.out)) hb); clear HB; have HB := n0_; clear n0_; (try clear hb); (try clear hb2); (try clear hk); (try clear hi); have p29 : 0 ≤ ((ji26) : Int) := of_decide_eq_true (by first | (with_reducible assumption) | assumption); have q29 : (ji26) < (t149.size : Int) := of_decide_eq_true (by first | (with_reducible assumption) | assumption); have hx29 := bt_at t149 (ji26); replace p29 := eq_true p29; replace q29 := eq_true q29))
                                      have n0_ := Aside0.mk (below_drew1 HB.out)
                                      clear HB
                                      have HB := n0_
                                      clear n0_
                                      refine start_ (n := 18) (S := fun w' => True) (ds := []) #[false, false, false, false, false, false, false, false, false, false, false, false, false, false, false, false, false, false] (by kernel_rfl) rfl rfl trivial (fun hHeld => ?_); refine with_tabW glebelaw5_MacsOne.tab18 glebelaw5_MacsOne.bits18 (fun HT_ HW_ => ?_)
                                      generalize w84.drew = w85 at HB hHeld ⊢
                                      refine pure_ (i := 0) (N := some 65) (v := ?_) (a' := ?_) #[true, false, false, false, false, false, false, false, false, false, false, false, false, false, false, false, false, false] rfl rfl (any_of HT_.out (by kernel_rfl)) (fun _ _ _ h => h) (Or.inl ⟨by rfl, ?_⟩) ?_ ?_
                                      rotate_left
                                      · intro w'
                                        go_simp
                                        with_reducible rfl
                                      rotate_left
                                      · simp only [Act.put, List.setIfInBounds_toArray, List.set_cons_zero, List.set_cons_succ, i64_w, i32_w]
                                        rfl
                                      refine pure_ (i := 1) (N := some 66) (v := ?_) (a' := ?_) #[true, true, false, false, false, false, false, false, false, false, false, false, false, false, false, false, false, false] rfl rfl (any_of HT_.out (by kernel_rfl)) (fun _ _ _ h => h) (Or.inl ⟨by rfl, ?_⟩) ?_ ?_
                                      rotate_left
                                      · intro w'
                                        go_simp
                                        with_reducible rfl
                                      rotate_left
                                      · simp only [Act.put, List.setIfInBounds_toArray, List.set_cons_zero, List.set_cons_succ, i64_w, i32_w]
                                        rfl
                                      refine pure_ (i := 2) (N := some 67) (v := ?_) (a' := ?_) #[true, true, true, false, false, false, false, false, false, false, false, false, false, false, false, false, false, false] rfl rfl (any_of HT_.out (by kernel_rfl)) (fun _ _ _ h => h) (Or.inl ⟨by rfl, ?_⟩) ?_ ?_
                                      rotate_left
                                      · intro w'
                                        go_simp
                                        with_reducible rfl
                                      rotate_left
                                      · simp only [Act.put, List.setIfInBounds_toArray, List.set_cons_zero, List.set_cons_succ, i64_w, i32_w]
                                        rfl
                                      refine pure_ (i := 3) (N := some 68) (v := ?_) (a' := ?_) #[true, true, true, true, false, false, false, false, false, false, false, false, false, false, false, false, false, false] rfl rfl (any_of HT_.out (by kernel_rfl)) (fun _ _ _ h => h) (Or.inl ⟨by rfl, ?_⟩) ?_ ?_
                                      rotate_left
                                      · intro w'
                                        go_simp
                                        with_reducible rfl
                                      rotate_left
                                      · simp only [Act.put, List.setIfInBounds_toArray, List.set_cons_zero, List.set_cons_succ, i64_w, i32_w]
                                        rfl
                                      refine pure_ (i := 7) (N := some 72) (v := ?_) (a' := ?_) #[true, true, true, true, false, false, false, true, false, false, false, false, false, false, false, false, false, false] rfl rfl (any_of HT_.out (by kernel_rfl)) (fun _ _ _ h => h) (Or.inl ⟨by rfl, ?_⟩) ?_ ?_
                                      rotate_left
                                      · intro w'
                                        go_simp
                                        with_reducible rfl
                                      rotate_left
                                      · simp only [Act.put, List.setIfInBounds_toArray, List.set_cons_zero, List.set_cons_succ, i64_w, i32_w]
                                        rfl
                                      refine pure_ (i := 8) (N := some 73) (v := ?_) (a' := ?_) #[true, true, true, true, false, false, false, true, true, false, false, false, false, false, false, false, false, false] rfl rfl (any_of HT_.out (by kernel_rfl)) (fun _ _ _ h => h) (Or.inl ⟨by rfl, ?_⟩) ?_ ?_
                                      rotate_left
                                      · intro w'
                                        go_simp
                                        with_reducible rfl
                                      rotate_left
                                      · simp only [Act.put, List.setIfInBounds_toArray, List.set_cons_zero, List.set_cons_succ, i64_w, i32_w]
                                        rfl
                                      refine pure_ (i := 9) (N := some 74) (v := ?_) (a' := ?_) #[true, true, true, true, false, false, false, true, true, true, false, false, false, false, false, false, false, false] rfl rfl (any_of HT_.out (by kernel_rfl)) (fun _ _ _ h => h) (Or.inl ⟨by rfl, ?_⟩) ?_ ?_
                                      rotate_left
                                      · intro w'
                                        go_simp
                                        with_reducible rfl
                                      rotate_left
                                      · simp only [Act.put, List.setIfInBounds_toArray, List.set_cons_zero, List.set_cons_succ, i64_w, i32_w]
                                        rfl
                                      refine pure_ (i := 10) (N := some 75) (v := ?_) (a' := ?_) #[true, true, true, true, false, false, false, true, true, true, true, false, false, false, false, false, false, false] rfl rfl (any_of HT_.out (by kernel_rfl)) (fun _ _ _ h => h) (Or.inl ⟨by rfl, ?_⟩) ?_ ?_
                                      rotate_left
                                      · intro w'
                                        go_simp
                                        with_reducible rfl
                                      rotate_left
                                      · simp only [Act.put, List.setIfInBounds_toArray, List.set_cons_zero, List.set_cons_succ, i64_w, i32_w]
                                        rfl
                                      refine one_ (i := 4) (N := some 69) #[true, true, true, true, true, false, false, true, true, true, true, false, false, false, false, false, false, false] rfl rfl (one_of HT_.out (by kernel_rfl)) (by decide) (fun K hK => ?_)
                                      refine Kd.R_lit_step (Kd.int .u8) _ 5 ?hg (N := 69) ?hd (xs := ([48] : List Int)) (inner := [.int .u8 48]) (ok := fun _ => True) (okp := fun _ => True) ?hr ?hp (fun _ hk => hk) trivial (Below.refl _ _) (Nat.le_refl _) (by simp) ?_; (case hd => rfl); (case hg => rfl); (case hr => first | (go_simp; done) | (go_simp; rfl)); (case hp => exact (Reps.one (show Kd.M (Kd.int .u8) _ _ _ 48 [.int .u8 48] from rfl) (Reps.none _ _)))
                                      intro v170 w86 ho87 hb hg_ hnew_
                                      clear hg_ hnew_
                                      (first | rw [← Ny169.out] at ho87 | (simp only [Int.reduceToNat] at ho87; rw [← Ny169.out] at ho87))
                                      have n0_ := Aside0.mk (Kd.R_lower ho87 (below_size (by repeat (first | (with_reducible first | exact HB.out | apply below_alloc | apply pw_below_drewN | apply below_drew1) | exact HB.out))))
                                      have n1_ := Aside0.mk (below_step (by repeat (first | (with_reducible first | exact HB.out | apply below_alloc | apply pw_below_drewN | apply below_drew1) | exact HB.out)) hb)
                                      clear HB
                                      have HO171 := n0_
                                      have HB := n1_
                                      clear n0_ n1_
                                      clear hb ho87
                                      refine hK.out _ _ trivial (fun hHeld => ?_)
                                      clear hK K
                                      refine norm_ (a' := ?_) ?_ ?_
                                      rotate_left
                                      · show Act.put _ (some 69) _ = _
                                        simp only [Act.put, List.setIfInBounds_toArray, List.set_cons_zero, List.set_cons_succ, i64_w, i32_w]
                                        rfl
                                      refine one_ (i := 5) (N := some 70) #[true, true, true, true, true, true, false, true, true, true, true, false, false, false, false, false, false, false] rfl rfl (one_of HT_.out (by kernel_rfl)) (by decide) (fun K hK => ?_)
                                      have hcv88 := own_string (P := Tryd.prog) Tryd.underlying35 Tryd.underlying5 Tryd.underlying9 (Kd.own_of_R HO171.out)
                                      refine value_ (w1 := ?_) (v := ?_) (by rfl) rfl ?_ ?_
                                      rotate_left 2
                                      · go_simp
                                        constructor
                                        · rfl
                                        · rfl
                                      clear hcv88
                                      refine hK.out _ _ trivial (fun hHeld => ?_)
                                      clear hK K
                                      refine norm_ (a' := ?_) ?_ ?_
                                      rotate_left
                                      · show Act.put _ (some 70) _ = _
                                        simp only [Act.put, List.setIfInBounds_toArray, List.set_cons_zero, List.set_cons_succ, i64_w, i32_w]
                                        rfl
                                      refine pure_ (i := 6) (N := some 71) (v := ?_) (a' := ?_) #[true, true, true, true, true, true, true, true, true, true, true, false, false, false, false, false, false, false] rfl rfl (any_of HT_.out (by kernel_rfl)) (fun _ _ _ h => h) (Or.inl ⟨by rfl, ?_⟩) ?_ ?_
                                      rotate_left
                                      · intro w'
                                        go_simp
                                        with_reducible rfl
                                      rotate_left
                                      · simp only [Act.put, List.setIfInBounds_toArray, List.set_cons_zero, List.set_cons_succ, i64_w, i32_w]
                                        rfl
                                      refine pure_ (i := 11) (N := some 76) (v := ?_) (a' := ?_) #[true, true, true, true, true, true, true, true, true, true, true, true, false, false, false, false, false, false] rfl rfl (any_of HT_.out (by kernel_rfl)) (fun _ _ _ h => h) (Or.inl ⟨by rfl, ?_⟩) ?_ ?_
                                      rotate_left
                                      · intro w'
                                        go_simp
                                        with_reducible rfl
                                      rotate_left
                                      · simp only [Act.put, List.setIfInBounds_toArray, List.set_cons_zero, List.set_cons_succ, i64_w, i32_w]
                                        rfl
                                      refine one_ (i := 12) (N := some 77) #[true, true, true, true, true, true, true, true, true, true, true, true, true, false, false, false, false, false] rfl rfl (one_of HT_.out (by kernel_rfl)) (by decide) (fun K hK => ?_)
                                      refine goes_ Tryd.func26 (by kernel_rfl) rfl #[.string (((t149.extract 0 ((ji26) : Int).toNat) ++ (strOfNums y169)) ++ (t149.extract ((ji64) : Int).toNat t149.size))] (by rfl) rfl rfl (by (try simp only [List.map_toArray, List.map_cons, List.map_nil]); first | done | (simp only [hji26, hji64]; rfl) | rfl | (simp only [List.length_drop, List.length_take]; rfl)) ?_
                                      with_reducible refine (macs_Parse.calls k2 (((t149.extract 0 ((ji26) : Int).toNat) ++ (strOfNums y169)) ++ (t149.extract ((ji64) : Int).toNat t149.size)) t172 false _ A68.out).mono ?_
                                      rintro e w89 ⟨rfl, hb⟩
                                      refine ⟨_, rfl, ?_⟩
                                      have n0_ := Aside0.mk (Kd.R_below (by (with_reducible repeat (first | apply Kd.R_alloc | apply Kd.R_drewN | apply Kd.R_drew)); exact HO171.out) hb)
                                      have n1_ := Aside0.mk (below_step (by repeat (first | (with_reducible first | exact HB.out | apply below_alloc | apply pw_below_drewN | apply below_drew1) | exact HB.out)) hb)
                                      clear HO171
                                      clear HB
                                      have HO171 := n0_
                                      have HB := n1_
                                      clear n0_ n1_
                                      (try clear hb)
                                      (try clear hb2)
                                      (try clear hk)
                                      (try clear hi)
                                      refine hK.out _ _ trivial (fun hHeld => ?_)
                                      clear hK K
                                      refine norm_ (a' := ?_) ?_ ?_
                                      rotate_left
                                      · show Act.put _ (some 77) _ = _
                                        simp only [Act.put, List.setIfInBounds_toArray, List.set_cons_zero, List.set_cons_succ, i64_w, i32_w]
                                        rfl
                                      refine pure_ (i := 13) (N := some 64) (v := ?_) (a' := ?_) #[true, true, true, true, true, true, true, true, true, true, true, true, true, true, false, false, false, false] rfl rfl (any_of HT_.out (by kernel_rfl)) (fun _ _ _ h => h) (Or.inl ⟨by rfl, ?_⟩) ?_ ?_
                                      rotate_left
                                      · intro w'
                                        go_simp
                                        with_reducible rfl
                                      rotate_left
                                      · simp only [Act.put, List.setIfInBounds_toArray, List.set_cons_zero, List.set_cons_succ, i64_w, i32_w]
                                        rfl
                                      refine pure_ (i := 14) (N := some 78) (v := ?_) (a' := ?_) #[true, true, true, true, true, true, true, true, true, true, true, true, true, true, true, false, false, false] rfl rfl (any_of HT_.out (by kernel_rfl)) (fun _ _ _ h => h) (Or.inl ⟨by rfl, ?_⟩) ?_ ?_
                                      rotate_left
                                      · intro w'
                                        go_simp
                                        with_reducible rfl
                                      rotate_left
                                      · simp only [Act.put, List.setIfInBounds_toArray, List.set_cons_zero, List.set_cons_succ, i64_w, i32_w]
                                        rfl
                                      refine pure_ (i := 15) (N := some 79) (v := ?_) (a' := ?_) #[true, true, true, true, true, true, true, true, true, true, true, true, true, true, true, true, false, false] rfl rfl (any_of HT_.out (by kernel_rfl)) (fun _ _ _ h => h) (Or.inl ⟨by rfl, ?_⟩) ?_ ?_
                                      rotate_left
                                      · intro w'
                                        go_simp
                                        with_reducible rfl
                                      rotate_left
                                      · simp only [Act.put, List.setIfInBounds_toArray, List.set_cons_zero, List.set_cons_succ, i64_w, i32_w]
                                        rfl
                                      refine pure_ (i := 16) (N := some 14) (v := ?_) (a' := ?_) #[true, true, true, true, true, true, true, true, true, true, true, true, true, true, true, true, true, false] rfl rfl (any_of HT_.out (by kernel_rfl)) (fun _ _ _ h => h) (Or.inl ⟨by rfl, ?_⟩) ?_ ?_
                                      rotate_left
                                      · intro w'
                                        go_simp
                                        with_reducible rfl
                                      rotate_left
                                      · simp only [Act.put, List.setIfInBounds_toArray, List.set_cons_zero, List.set_cons_succ, i64_w, i32_w]
                                        rfl
                                      refine pure_ (i := 17) (N := some 15) (v := ?_) (a' := ?_) #[true, true, true, true, true, true, true, true, true, true, true, true, true, true, true, true, true, true] rfl rfl (any_of HT_.out (by kernel_rfl)) (fun _ _ _ h => h) (Or.inl ⟨by rfl, ?_⟩) ?_ ?_
                                      rotate_left
                                      · intro w'
                                        go_simp
                                        with_reducible rfl
                                      rotate_left
                                      · simp only [Act.put, List.setIfInBounds_toArray, List.set_cons_zero, List.set_cons_succ, i64_w, i32_w]
                                        rfl
                                      refine done_ (done_of HT_.out (by kernel_rfl)) ?_
                                      have p71 : 0 ≤ ((ji26) : Int) := of_decide_eq_true (by first | (with_reducible assumption) | assumption)
                                      have q71 : (ji26) < (t149.size : Int) := of_decide_eq_true (by first | (with_reducible assumption) | assumption)
                                      have hx71 := bt_at t149 (ji26)
                                      replace p71 := eq_true p71
                                      replace q71 := eq_true q71
                                      try go_wp2_with (first | (go_at_call 28; (with_reducible refine (glebelaw5_awake.calls k2  t175 _ A83.out).mono ?_); rintro e w90 ⟨rfl, hb⟩; have n0_ := Aside0.mk (Kd.R_below (by (with_reducible repeat (first | apply Kd.R_alloc | apply Kd.R_drewN | apply Kd.R_drew)); exact HO171.out) hb); have n1_ := Aside0.mk (below_step (by repeat (first | (with_reducible first | exact HB.out | apply below_alloc | apply pw_below_drewN | apply below_drew1) | exact HB.out)) hb); clear HO171; clear HB; have HO171 := n0_; have HB := n1_; clear n0_ n1_; (try clear hb); (try clear hb2); (try clear hk); (try clear hi)))
                                      go_ret
                                      exact ⟨by first | rfl | (simp [errW_none, errW_some] <;> rfl) | (simp only [← hji26, ← hji64]; first | rfl | (simp [errW_none, errW_some] <;> rfl)) | (simp [*, errW_none, errW_some] <;> rfl), by repeat (first | (with_reducible first | exact HB.out | apply below_alloc | apply pw_below_drewN | apply below_drew1) | exact HB.out)⟩
                                  · rw [if_neg c72] at H
                                    exact absurd H (by simp)
                                · rw [if_neg c70] at H
                                  exact absurd H (by simp)
                              · replace c69 := Bool.eq_false_iff.mpr c69
                                subst c69
                                have H1 : (none) = some r := by rw [if_neg (show ¬ (false = true) by decide)] at H; exact H
                                clear H
                                have H := H1
                                clear H1
                                exact absurd H (by simp)
                            · rw [if_neg c67] at H
                              exact absurd H (by simp)
                          · rw [if_neg c66] at H
                            exact absurd H (by simp)
                        · rw [if_neg c65] at H
                          exact absurd H (by simp)
                      · rw [if_neg c63] at H
                        exact absurd H (by simp)
                    · rw [if_neg c62] at H
                      exact absurd H (by simp)
                · rw [if_neg c28] at H
                  exact absurd H (by simp)
              · rw [if_neg c27] at H
                exact absurd H (by simp)

/-- THE ONE PURE STATEMENT of glebelaw5_MacsOne: yours. -/
def glebelaw5_MacsOne.Pure : Prop := ∀ (a0 : Int) (a1 : Int), (Lit.int .u64 a0).wf = true → (Lit.int .i64 a1).wf = true → ∃ k, glebelaw5_MacsOne.f k a0 a1 = some true
theorem glebelaw5_MacsOne.walk (P : glebelaw5_MacsOne.Pure) (a0 : Int) (a1 : Int) (w : World) (w0 : (Lit.int .u64 a0).wf = true) (w1 : (Lit.int .i64 a1).wf = true) :
    Calls Tryd.prog 8 #[.int .u64 a0, .int .i64 a1] w fun e w' => e = .returned (.bool true) ∧ Below w.heap.size w w' := by
  obtain ⟨k, h⟩ := P a0 a1 w0 w1
  refine (glebelaw5_MacsOne.calls k a0 a1 true w h).mono ?_
  rintro e w' ⟨rfl, hd⟩
  exact ⟨rfl, hd⟩

end Go.Proofs.YtcgchblljhbdaaaDoor.M
