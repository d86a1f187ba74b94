-- Printed by this session's own program (wip/xprint) out of the translation. Lean checks it.
import Derived.Test.YtcgchblljhbdaaaDoorZx0
namespace Go.Proofs.YtcgchblljhbdaaaDoor.Z
open Go.Proofs.YtcgchblljhbdaaaDoor
open Go.RowKit Go.Proofs.YtcgchblljhbdaaaDoorW.PrintWords Go.Proofs.YtcgchblljhbdaaaDoorW.PrintLast Go.Proofs.YtcgchblljhbdaaaDoorW.PrintMore
attribute [local go_sem] max2_int min2_int max_two min_two max_three min_three max_four min_four   -- for this text's walks alone
set_option linter.unusedVariables false
set_option linter.unusedSimpArgs false

/-! ### gleberef1_Text: function 24 -/
def gleberef1_Text.l0 : Nat → Int → ByteArray → Option (ByteArray)
  | 0, _, _ => none
  | k + 1, x0, x3 => if x0 > 0 then ((some (([(IntKind.u64.wrap (48 + (Int.tmod x0 10))) % 256] : List Int) : List Int)).bind fun y185 => (if (strOfNums y185).size + x3.size ≤ 9223372036854775807 then (gleberef1_Text.l0 k (IntKind.u64.wrap (Int.tdiv x0 10)) ((strOfNums y185) ++ x3)) else (none))) else (if x3.toList = ([] : List UInt8) then ((some (([(IntKind.u64.wrap (48 + (Int.tmod x0 10))) % 256] : List Int) : List Int)).bind fun y188 => (if (strOfNums y188).size + x3.size ≤ 9223372036854775807 then (gleberef1_Text.l0 k (IntKind.u64.wrap (Int.tdiv x0 10)) ((strOfNums y188) ++ x3)) else (none))) else (some x3))
def gleberef1_Text.f (k : Nat) (a0 : Int) : Option (ByteArray) := gleberef1_Text.l0 k a0 (⟨#[]⟩ : ByteArray)
theorem gleberef1_Text.mono_l : ∀ k, (∀ y0 y1, LeO (gleberef1_Text.l0 k y0 y1) (gleberef1_Text.l0 (k + 1) y0 y1))
  | 0 => fun _ _ r h => by simp [gleberef1_Text.l0] at h
  | k + 1 => by
    have ih0 := gleberef1_Text.mono_l k
    · intro y0 y1
      unfold gleberef1_Text.l0
      repeat' first
      | (with_reducible exact ih0 _ _)
      | (with_reducible exact LeO.refl _)
      | (with_reducible exact LeO.none _)
      | (with_reducible refine LeO.ite ?_ ?_)
      | (with_reducible refine LeO.bind ?_ (fun _ => ?_))
      | exact ih0 _ _
      | exact LeO.none _
      | refine LeO.ite ?_ ?_
      | refine LeO.bind ?_ (fun _ => ?_)
theorem gleberef1_Text.mono : ∀ a0 k, LeO (gleberef1_Text.f k a0) (gleberef1_Text.f (k + 1) a0) := by
  intro a0 k
  have ih0 := gleberef1_Text.mono_l k
  unfold gleberef1_Text.f
  repeat' first
      | (with_reducible exact ih0 _ _)
      | (with_reducible exact LeO.refl _)
      | (with_reducible exact LeO.none _)
      | (with_reducible refine LeO.ite ?_ ?_)
      | (with_reducible refine LeO.bind ?_ (fun _ => ?_))
      | exact ih0 _ _
      | exact LeO.none _
      | refine LeO.ite ?_ ?_
      | refine LeO.bind ?_ (fun _ => ?_)
set_option maxHeartbeats 8000000 in
set_option maxRecDepth 100000 in
theorem gleberef1_Text.calls (k : Nat) (a0 : Int) (r : ByteArray) (w : World) (h : gleberef1_Text.f k a0 = some r) :
    Calls Tryd.prog 24 #[.int .u64 a0] w fun e w' => e = .returned (.string r) ∧ Below w.heap.size w w' := by
  have HB := Aside0.mk (Below.refl w.heap.size w)
  have H : (gleberef1_Text.l0 k a0 (⟨#[]⟩ : ByteArray)) = some r := h
  clear h
  have H' := Aside0.mk H
  clear H
  go_enter Tryd.func24, Tryd.ntmps24
  go_wp2
  go_loopg [0, 3] k (fun kq v0 v3 w' => ∃ (x0_1 : Int) (x3_1 : ByteArray), v0 = .int .u64 x0_1 ∧ v3 = .string x3_1 ∧ Aside0 (gleberef1_Text.l0 kq x0_1 x3_1 = some r) ∧ Aside0 (kq ≤ k) ∧ Aside0 (Below w.heap.size w w'))
  case atStart => exact ⟨(a0), ((⟨#[]⟩ : ByteArray)), (by first | rfl | (simp only [i64_w]; done) | (simp; done) | (simp [*]; done)), (by first | rfl | (simp only [i64_w]; done) | (simp; done) | (simp [*]; done)), H', ⟨Nat.le_refl _⟩, ⟨by repeat (first | (with_reducible first | exact HB.out | apply below_alloc | apply pw_below_drewN | apply below_drew1) | exact HB.out)⟩⟩
  case round =>
    clear H'
    obtain ⟨x0_1, x3_1, rfl, rfl, HA, HK1, HB⟩ := hrel
    cases gk with
    | zero => exact absurd HA.out (by simp [gleberef1_Text.l0])
    | succ k1 =>
      have H := HA.out
      clear HA
      simp only [gleberef1_Text.l0] at H
      by_cases c2 : x0_1 > 0
      · rw [if_pos c2] at H
        have c2b0 : decide (0 < x0_1) = true := decide_eq_true c2
        clear c2
        obtain ⟨y185, hy185⟩ : ∃ y_ : List Int, y_ = (([(IntKind.u64.wrap (48 + (Int.tmod x0_1 10))) % 256] : List Int)) := ⟨_, rfl⟩
        replace H : (if (strOfNums y185).size + x3_1.size ≤ 9223372036854775807 then (gleberef1_Text.l0 k1 (IntKind.u64.wrap (Int.tdiv x0_1 10)) ((strOfNums y185) ++ x3_1)) else (none)) = some r := by first | (rw [hy185]; with_reducible exact H) | (have H2_ := (Option.bind_some _ _).symm.trans H; rw [hy185]; with_reducible exact H2_) | (have H2_ := (Option.bind_some _ _).symm.trans H; with_reducible exact H2_) | with_reducible exact H | (rw [hy185]; exact H) | exact H
        have Ny185 := Aside0.mk hy185
        clear hy185
        by_cases c3 : (strOfNums y185).size + x3_1.size ≤ 9223372036854775807
        · rw [if_pos c3] at H
          have c3b0 := eq_true c3
          have c3b1 : decide ((strOfNums y185).size + x3_1.size ≤ 9223372036854775807) = true := decide_eq_true c3
          try have c3b2 : (9223372036854775807 < (strOfNums y185).size + x3_1.size) = False := eq_false (Nat.not_lt.2 c3)
          have H' := Aside0.mk H
          clear H
          go_wp2_with (first | ((with_reducible refine gate_dst (N := 14) rfl ?_); refine Kd.R_lit (Kd.int .u8) _ 5 ?hg (N := 14) ?hd (xs := ([(IntKind.u64.wrap (48 + (Int.tmod x0_1 10))) % 256] : List Int)) (inner := [.int .u8 ((IntKind.u64.wrap (48 + (Int.tmod x0_1 10))) % 256)]) (ok := fun _ => True) (okp := fun _ => True) ?hr ?hp (fun _ hk => hk) trivial (Below.refl _ _) (Nat.le_refl _) (by simp) ?_; (case hd => rfl); (case hg => rfl); (case hr => first | (go_simp; done) | (go_simp; rfl)); (case hp => exact (Reps.one (show Kd.M (Kd.int .u8) _ _ _ ((IntKind.u64.wrap (48 + (Int.tmod x0_1 10))) % 256) [.int .u8 ((IntKind.u64.wrap (48 + (Int.tmod x0_1 10))) % 256)] from rfl) (Reps.none _ _))); intro v186 w4 ho5 hb hg_ hnew_; clear hg_ hnew_; (first | rw [← Ny185.out] at ho5 | (simp only [Int.reduceToNat] at ho5; rw [← Ny185.out] at ho5)); have n0_ := Aside0.mk (Kd.R_lower ho5 (below_size (by repeat (first | (with_reducible first | exact HB.out | apply below_alloc | apply pw_below_drewN | apply below_drew1) | exact HB.out)))); have n1_ := Aside0.mk (below_step (by repeat (first | (with_reducible first | exact HB.out | apply below_alloc | apply pw_below_drewN | apply below_drew1) | exact HB.out)) hb); clear HB; have HO187 := n0_; have HB := n1_; clear n0_ n1_; clear hb ho5; have hcv6 := own_string (P := Tryd.prog) Tryd.underlying35 Tryd.underlying5 Tryd.underlying9 (Kd.own_of_R HO187.out)))
          go_roundg k1
          case measure => have := HK1.out; omega
          case rel => exact ⟨(IntKind.u64.wrap (Int.tdiv x0_1 10)), ((strOfNums y185) ++ x3_1), (by first | rfl | (simp only [i64_w]; done) | (simp; done) | (simp [*]; done)), (by first | rfl | (simp only [i64_w]; done) | (simp; done) | (simp [*]; done)), H', ⟨by have := HK1.out; omega⟩, ⟨by repeat (first | (with_reducible first | exact HB.out | apply below_alloc | apply pw_below_drewN | apply below_drew1) | exact HB.out)⟩⟩
        · rw [if_neg c3] at H
          exact absurd H (by simp)
      · rw [if_neg c2] at H
        have c2b0 : decide (0 < x0_1) = false := decide_eq_false c2
        clear c2
        by_cases c7 : x3_1.toList = ([] : List UInt8)
        · rw [if_pos c7] at H
          have c7b0 : (x3_1.toList == ([] : List UInt8)) = true := beq_iff_eq.mpr c7
          have c7b1 : (x3_1.toList != ([] : List UInt8)) = false := bne_eq_false_iff_eq.mpr c7
          clear c7
          obtain ⟨y188, hy188⟩ : ∃ y_ : List Int, y_ = (([(IntKind.u64.wrap (48 + (Int.tmod x0_1 10))) % 256] : List Int)) := ⟨_, rfl⟩
          replace H : (if (strOfNums y188).size + x3_1.size ≤ 9223372036854775807 then (gleberef1_Text.l0 k1 (IntKind.u64.wrap (Int.tdiv x0_1 10)) ((strOfNums y188) ++ x3_1)) else (none)) = some r := by first | (rw [hy188]; with_reducible exact H) | (have H2_ := (Option.bind_some _ _).symm.trans H; rw [hy188]; with_reducible exact H2_) | (have H2_ := (Option.bind_some _ _).symm.trans H; with_reducible exact H2_) | with_reducible exact H | (rw [hy188]; exact H) | exact H
          have Ny188 := Aside0.mk hy188
          clear hy188
          by_cases c8 : (strOfNums y188).size + x3_1.size ≤ 9223372036854775807
          · rw [if_pos c8] at H
            have c8b0 := eq_true c8
            have c8b1 : decide ((strOfNums y188).size + x3_1.size ≤ 9223372036854775807) = true := decide_eq_true c8
            try have c8b2 : (9223372036854775807 < (strOfNums y188).size + x3_1.size) = False := eq_false (Nat.not_lt.2 c8)
            have H' := Aside0.mk H
            clear H
            go_wp2_with (first | ((with_reducible refine gate_dst (N := 14) rfl ?_); refine Kd.R_lit (Kd.int .u8) _ 5 ?hg (N := 14) ?hd (xs := ([(IntKind.u64.wrap (48 + (Int.tmod x0_1 10))) % 256] : List Int)) (inner := [.int .u8 ((IntKind.u64.wrap (48 + (Int.tmod x0_1 10))) % 256)]) (ok := fun _ => True) (okp := fun _ => True) ?hr ?hp (fun _ hk => hk) trivial (Below.refl _ _) (Nat.le_refl _) (by simp) ?_; (case hd => rfl); (case hg => rfl); (case hr => first | (go_simp; done) | (go_simp; rfl)); (case hp => exact (Reps.one (show Kd.M (Kd.int .u8) _ _ _ ((IntKind.u64.wrap (48 + (Int.tmod x0_1 10))) % 256) [.int .u8 ((IntKind.u64.wrap (48 + (Int.tmod x0_1 10))) % 256)] from rfl) (Reps.none _ _))); intro v189 w9 ho10 hb hg_ hnew_; clear hg_ hnew_; (first | rw [← Ny188.out] at ho10 | (simp only [Int.reduceToNat] at ho10; rw [← Ny188.out] at ho10)); have n0_ := Aside0.mk (Kd.R_lower ho10 (below_size (by repeat (first | (with_reducible first | exact HB.out | apply below_alloc | apply pw_below_drewN | apply below_drew1) | exact HB.out)))); have n1_ := Aside0.mk (below_step (by repeat (first | (with_reducible first | exact HB.out | apply below_alloc | apply pw_below_drewN | apply below_drew1) | exact HB.out)) hb); clear HB; have HO190 := n0_; have HB := n1_; clear n0_ n1_; clear hb ho10; have hcv11 := own_string (P := Tryd.prog) Tryd.underlying35 Tryd.underlying5 Tryd.underlying9 (Kd.own_of_R HO190.out)))
            go_roundg k1
            case measure => have := HK1.out; omega
            case rel => exact ⟨(IntKind.u64.wrap (Int.tdiv x0_1 10)), ((strOfNums y188) ++ x3_1), (by first | rfl | (simp only [i64_w]; done) | (simp; done) | (simp [*]; done)), (by first | rfl | (simp only [i64_w]; done) | (simp; done) | (simp [*]; done)), H', ⟨by have := HK1.out; omega⟩, ⟨by repeat (first | (with_reducible first | exact HB.out | apply below_alloc | apply pw_below_drewN | apply below_drew1) | exact HB.out)⟩⟩
          · rw [if_neg c8] at H
            exact absurd H (by simp)
        · rw [if_neg c7] at H
          have c7b0 : (x3_1.toList == ([] : List UInt8)) = false := beq_eq_false_iff_ne.mpr c7
          have c7b1 : (x3_1.toList != ([] : List UInt8)) = true := bne_iff_ne.mpr c7
          obtain rfl := Option.some.inj H
          go_wp2
          go_ret
          exact ⟨by first | rfl | (simp [errW_none, errW_some] <;> rfl) | (simp [*, errW_none, errW_some] <;> rfl), by repeat (first | (with_reducible first | exact HB.out | apply below_alloc | apply pw_below_drewN | apply below_drew1) | exact HB.out)⟩

/-! ### gleberef1_leap: function 69 -/
def gleberef1_leap.f (a0 : Int) : Option (Bool) := if (Int.tmod a0 4) = 0 then (if (Int.tmod a0 100) = 0 then (some ((Int.tmod a0 400) == 0)) else (some true)) else (some ((Int.tmod a0 400) == 0))
set_option maxHeartbeats 8000000 in
set_option maxRecDepth 100000 in
theorem gleberef1_leap.calls (a0 : Int) (r : Bool) (w : World) (h : gleberef1_leap.f a0 = some r) :
    Calls Tryd.prog 69 #[.int .i64 a0] w fun e w' => e = .returned (.bool r) ∧ Drawn0 w w' := by
  have H : (if (Int.tmod a0 4) = 0 then (if (Int.tmod a0 100) = 0 then (some ((Int.tmod a0 400) == 0)) else (some true)) else (some ((Int.tmod a0 400) == 0))) = some r := h
  clear h
  by_cases c2 : (Int.tmod a0 4) = 0
  · rw [if_pos c2] at H
    have c2b0 : ((Int.tmod a0 4) == 0) = true := beq_iff_eq.mpr c2
    have c2b1 : ((Int.tmod a0 4) != 0) = false := bne_eq_false_iff_eq.mpr c2
    clear c2
    by_cases c3 : (Int.tmod a0 100) = 0
    · rw [if_pos c3] at H
      have c3b0 : ((Int.tmod a0 100) == 0) = true := beq_iff_eq.mpr c3
      have c3b1 : ((Int.tmod a0 100) != 0) = false := bne_eq_false_iff_eq.mpr c3
      clear c3
      obtain rfl := Option.some.inj H
      go_enter Tryd.func69, Tryd.ntmps69
      go_wp2
      go_ret
      exact ⟨by first | rfl | (simp only [i64_w]; done) | (simp; done) | (simp [*]; done), by repeat (first | exact Drawn0.refl _ | apply Drawn0.step)⟩
    · rw [if_neg c3] at H
      have c3b0 : ((Int.tmod a0 100) == 0) = false := beq_eq_false_iff_ne.mpr c3
      have c3b1 : ((Int.tmod a0 100) != 0) = true := bne_iff_ne.mpr c3
      obtain rfl := Option.some.inj H
      go_enter Tryd.func69, Tryd.ntmps69
      go_wp2
      go_ret
      exact ⟨by first | rfl | (simp only [i64_w]; done) | (simp; done) | (simp [*]; done), by repeat (first | exact Drawn0.refl _ | apply Drawn0.step)⟩
  · rw [if_neg c2] at H
    have c2b0 : ((Int.tmod a0 4) == 0) = false := beq_eq_false_iff_ne.mpr c2
    have c2b1 : ((Int.tmod a0 4) != 0) = true := bne_iff_ne.mpr c2
    obtain rfl := Option.some.inj H
    go_enter Tryd.func69, Tryd.ntmps69
    go_wp2
    go_ret
    exact ⟨by first | rfl | (simp only [i64_w]; done) | (simp; done) | (simp [*]; done), by repeat (first | exact Drawn0.refl _ | apply Drawn0.step)⟩

/-! ### gleberef1_month: function 49 -/
def gleberef1_month.f (a0 : Int) (a1 : Int) : Option (Int) := if a1 = 2 then ((gleberef1_leap.f a0).bind fun t191 => (if t191 = true then (some 29) else ((some (([31, 28, 31, 30, 31, 30, 31, 31, 30, 31, 30, 31] : List Int) : List Int)).bind fun y192 => (if 0 ≤ (wrap64 (a1 - 1)) then (if (wrap64 (a1 - 1)) < (y192.length : Int) then (some (rd y192 (wrap64 (a1 - 1)))) else (none)) else (none))))) else ((some (([31, 28, 31, 30, 31, 30, 31, 31, 30, 31, 30, 31] : List Int) : List Int)).bind fun y196 => (if 0 ≤ (wrap64 (a1 - 1)) then (if (wrap64 (a1 - 1)) < (y196.length : Int) then (some (rd y196 (wrap64 (a1 - 1)))) else (none)) else (none)))
set_option maxHeartbeats 8000000 in
set_option maxRecDepth 100000 in
theorem gleberef1_month.calls (a0 : Int) (a1 : Int) (r : Int) (w : World) (h : gleberef1_month.f a0 a1 = some r) :
    Calls Tryd.prog 49 #[.int .i64 a0, .int .i64 a1] w fun e w' => e = .returned (.int .i64 r) ∧ Below w.heap.size w w' := by
  have HB := Aside0.mk (Below.refl w.heap.size w)
  have H : (if a1 = 2 then ((gleberef1_leap.f a0).bind fun t191 => (if t191 = true then (some 29) else ((some (([31, 28, 31, 30, 31, 30, 31, 31, 30, 31, 30, 31] : List Int) : List Int)).bind fun y192 => (if 0 ≤ (wrap64 (a1 - 1)) then (if (wrap64 (a1 - 1)) < (y192.length : Int) then (some (rd y192 (wrap64 (a1 - 1)))) else (none)) else (none))))) else ((some (([31, 28, 31, 30, 31, 30, 31, 31, 30, 31, 30, 31] : List Int) : List Int)).bind fun y196 => (if 0 ≤ (wrap64 (a1 - 1)) then (if (wrap64 (a1 - 1)) < (y196.length : Int) then (some (rd y196 (wrap64 (a1 - 1)))) else (none)) else (none)))) = some r := h
  clear h
  by_cases c3 : a1 = 2
  · rw [if_pos c3] at H
    have c3b0 : (a1 == 2) = true := beq_iff_eq.mpr c3
    have c3b1 : (a1 != 2) = false := bne_eq_false_iff_eq.mpr c3
    clear c3
    replace H := Option.bind_eq_some_iff.mp H
    obtain ⟨t191, A40, H⟩ := H
    replace H : (if t191 = true then (some 29) else ((some (([31, 28, 31, 30, 31, 30, 31, 31, 30, 31, 30, 31] : List Int) : List Int)).bind fun y192 => (if 0 ≤ (wrap64 (a1 - 1)) then (if (wrap64 (a1 - 1)) < (y192.length : Int) then (some (rd y192 (wrap64 (a1 - 1)))) else (none)) else (none)))) = some r := H
    have A4 := Aside0.mk A40
    clear A40
    by_cases c5 : t191 = true
    · subst c5
      have H1 : (some 29) = some r := by rw [if_pos rfl] at H; exact H
      clear H
      have H := H1
      clear H1
      obtain rfl := Option.some.inj H
      go_enter Tryd.func49, Tryd.ntmps49
      go_wp2_with (first | (go_at_call 69; (with_reducible refine (gleberef1_leap.calls a0 true _ A4.out).mono ?_); rintro e w' ⟨rfl, ⟨nd, rfl⟩⟩))
      go_ret
      exact ⟨by first | rfl | (simp [errW_none, errW_some] <;> rfl) | (simp [*, errW_none, errW_some] <;> rfl), by repeat (first | (with_reducible first | exact HB.out | apply below_alloc | apply pw_below_drewN | apply below_drew1) | exact HB.out)⟩
    · replace c5 := Bool.eq_false_iff.mpr c5
      subst c5
      have H1 : ((some (([31, 28, 31, 30, 31, 30, 31, 31, 30, 31, 30, 31] : List Int) : List Int)).bind fun y192 => (if 0 ≤ (wrap64 (a1 - 1)) then (if (wrap64 (a1 - 1)) < (y192.length : Int) then (some (rd y192 (wrap64 (a1 - 1)))) else (none)) else (none))) = some r := by rw [if_neg (show ¬ (false = true) by decide)] at H; exact H
      clear H
      have H := H1
      clear H1
      obtain ⟨y192, hy192⟩ : ∃ y_ : List Int, y_ = (([31, 28, 31, 30, 31, 30, 31, 31, 30, 31, 30, 31] : List Int)) := ⟨_, rfl⟩
      replace H : (if 0 ≤ (wrap64 (a1 - 1)) then (if (wrap64 (a1 - 1)) < (y192.length : Int) then (some (rd y192 (wrap64 (a1 - 1)))) else (none)) else (none)) = some r := by first | (rw [hy192]; with_reducible exact H) | (have H2_ := (Option.bind_some _ _).symm.trans H; rw [hy192]; with_reducible exact H2_) | (have H2_ := (Option.bind_some _ _).symm.trans H; with_reducible exact H2_) | with_reducible exact H | (rw [hy192]; exact H) | exact H
      have Ny192 := Aside0.mk hy192
      clear hy192
      obtain ⟨ji6, hji6⟩ : ∃ j_ : Int, (wrap64 (a1 - 1)) = j_ := ⟨_, rfl⟩
      replace H : (if 0 ≤ (ji6) then (if (ji6) < (y192.length : Int) then (some (rd y192 (ji6))) else (none)) else (none)) = some r := by first | (rw [hji6] at H; exact H) | (simp only [hji6] at H ⊢; exact H)
      (try rw [hji6] at A4)
      have hji6w : (IntKind.i64.wrap (a1 - 1)) = ji6 := (i64_w _).trans hji6
      by_cases c7 : 0 ≤ (ji6)
      · rw [if_pos c7] at H
        have c7b0 : decide (0 ≤ (ji6)) = true := decide_eq_true c7
        clear c7
        by_cases c8 : (ji6) < (y192.length : Int)
        · rw [if_pos c8] at H
          have c8b0 : decide ((ji6) < (y192.length : Int)) = true := decide_eq_true c8
          clear c8
          obtain rfl := Option.some.inj H
          go_enter Tryd.func49, Tryd.ntmps49
          go_wp2_with (first | (go_at_call 69; (with_reducible refine (gleberef1_leap.calls a0 false _ A4.out).mono ?_); rintro e w' ⟨rfl, ⟨nd, rfl⟩⟩) | ((with_reducible refine gate_dst (N := 11) rfl ?_); refine Kd.R_lit (Kd.int .i64) _ 3 ?hg (N := 11) ?hd (xs := ([31, 28, 31, 30, 31, 30, 31, 31, 30, 31, 30, 31] : List Int)) (inner := [.int .i64 31, .int .i64 28, .int .i64 31, .int .i64 30, .int .i64 31, .int .i64 30, .int .i64 31, .int .i64 31, .int .i64 30, .int .i64 31, .int .i64 30, .int .i64 31]) (ok := fun _ => True) (okp := fun _ => True) ?hr ?hp (fun _ hk => hk) trivial (Below.refl _ _) (Nat.le_refl _) (by simp) ?_; (case hd => rfl); (case hg => rfl); (case hr => first | (go_simp; done) | (go_simp; rfl)); (case hp => exact (Reps.one (show Kd.M (Kd.int .i64) _ _ _ 31 [.int .i64 31] from rfl) (Reps.one (show Kd.M (Kd.int .i64) _ _ _ 28 [.int .i64 28] from rfl) (Reps.one (show Kd.M (Kd.int .i64) _ _ _ 31 [.int .i64 31] from rfl) (Reps.one (show Kd.M (Kd.int .i64) _ _ _ 30 [.int .i64 30] from rfl) (Reps.one (show Kd.M (Kd.int .i64) _ _ _ 31 [.int .i64 31] from rfl) (Reps.one (show Kd.M (Kd.int .i64) _ _ _ 30 [.int .i64 30] from rfl) (Reps.one (show Kd.M (Kd.int .i64) _ _ _ 31 [.int .i64 31] from rfl) (Reps.one (show Kd.M (Kd.int .i64) _ _ _ 31 [.int .i64 31] from rfl) (Reps.one (show Kd.M (Kd.int .i64) _ _ _ 30 [.int .i64 30] from rfl) (Reps.one (show Kd.M (Kd.int .i64) _ _ _ 31 [.int .i64 31] from rfl) (Reps.one (show Kd.M (Kd.int .i64) _ _ _ 30 [.int .i64 30] from rfl) (Reps.one (show Kd.M (Kd.int .i64) _ _ _ 31 [.int .i64 31] from rfl) (Reps.none _ _)))))))))))))); intro v193 w9 ho10 hb hg_ hnew_; clear hg_ hnew_; (first | rw [← Ny192.out] at ho10 | (simp only [Int.reduceToNat] at ho10; rw [← Ny192.out] at ho10)); have n0_ := Aside0.mk (Kd.R_lower ho10 (below_size (by repeat (first | (with_reducible first | exact HB.out | apply below_alloc | apply pw_below_drewN | apply below_drew1) | exact HB.out)))); have n1_ := Aside0.mk (below_step (by repeat (first | (with_reducible first | exact HB.out | apply below_alloc | apply pw_below_drewN | apply below_drew1) | exact HB.out)) hb); clear HB; have HO194 := n0_; have HB := n1_; clear n0_ n1_; clear hb ho10; obtain ⟨Ao11, co11, eo11⟩ := Kd.R_slice HO194.out; subst eo11; have p195 : 0 ≤ ((ji6) : Int) := of_decide_eq_true (by first | (with_reducible assumption) | assumption); have q195 : (ji6) < (y192.length : Int) := of_decide_eq_true (by first | (with_reducible assumption) | assumption); obtain ⟨ad195, e195, hx195_0⟩ := Kd.at_int (Kd.R_reads' HO194.out).2.2 (ji6) p195 q195; cases e195; replace p195 := eq_true p195; replace q195 := eq_true q195))
          go_ret
          exact ⟨by first | rfl | (simp [errW_none, errW_some] <;> rfl) | (simp only [← hji6]; first | rfl | (simp [errW_none, errW_some] <;> rfl)) | (simp [*, errW_none, errW_some] <;> rfl), by repeat (first | (with_reducible first | exact HB.out | apply below_alloc | apply pw_below_drewN | apply below_drew1) | exact HB.out)⟩
        · rw [if_neg c8] at H
          exact absurd H (by simp)
      · rw [if_neg c7] at H
        exact absurd H (by simp)
  · rw [if_neg c3] at H
    have c3b0 : (a1 == 2) = false := beq_eq_false_iff_ne.mpr c3
    have c3b1 : (a1 != 2) = true := bne_iff_ne.mpr c3
    obtain ⟨y196, hy196⟩ : ∃ y_ : List Int, y_ = (([31, 28, 31, 30, 31, 30, 31, 31, 30, 31, 30, 31] : List Int)) := ⟨_, rfl⟩
    replace H : (if 0 ≤ (wrap64 (a1 - 1)) then (if (wrap64 (a1 - 1)) < (y196.length : Int) then (some (rd y196 (wrap64 (a1 - 1)))) else (none)) else (none)) = some r := by first | (rw [hy196]; with_reducible exact H) | (have H2_ := (Option.bind_some _ _).symm.trans H; rw [hy196]; with_reducible exact H2_) | (have H2_ := (Option.bind_some _ _).symm.trans H; with_reducible exact H2_) | with_reducible exact H | (rw [hy196]; exact H) | exact H
    have Ny196 := Aside0.mk hy196
    clear hy196
    obtain ⟨ji12, hji12⟩ : ∃ j_ : Int, (wrap64 (a1 - 1)) = j_ := ⟨_, rfl⟩
    replace H : (if 0 ≤ (ji12) then (if (ji12) < (y196.length : Int) then (some (rd y196 (ji12))) else (none)) else (none)) = some r := by first | (rw [hji12] at H; exact H) | (simp only [hji12] at H ⊢; exact H)
    have hji12w : (IntKind.i64.wrap (a1 - 1)) = ji12 := (i64_w _).trans hji12
    by_cases c13 : 0 ≤ (ji12)
    · rw [if_pos c13] at H
      have c13b0 : decide (0 ≤ (ji12)) = true := decide_eq_true c13
      clear c13
      by_cases c14 : (ji12) < (y196.length : Int)
      · rw [if_pos c14] at H
        have c14b0 : decide ((ji12) < (y196.length : Int)) = true := decide_eq_true c14
        clear c14
        obtain rfl := Option.some.inj H
        go_enter Tryd.func49, Tryd.ntmps49
        go_wp2_with (first | ((with_reducible refine gate_dst (N := 11) rfl ?_); refine Kd.R_lit (Kd.int .i64) _ 3 ?hg (N := 11) ?hd (xs := ([31, 28, 31, 30, 31, 30, 31, 31, 30, 31, 30, 31] : List Int)) (inner := [.int .i64 31, .int .i64 28, .int .i64 31, .int .i64 30, .int .i64 31, .int .i64 30, .int .i64 31, .int .i64 31, .int .i64 30, .int .i64 31, .int .i64 30, .int .i64 31]) (ok := fun _ => True) (okp := fun _ => True) ?hr ?hp (fun _ hk => hk) trivial (Below.refl _ _) (Nat.le_refl _) (by simp) ?_; (case hd => rfl); (case hg => rfl); (case hr => first | (go_simp; done) | (go_simp; rfl)); (case hp => exact (Reps.one (show Kd.M (Kd.int .i64) _ _ _ 31 [.int .i64 31] from rfl) (Reps.one (show Kd.M (Kd.int .i64) _ _ _ 28 [.int .i64 28] from rfl) (Reps.one (show Kd.M (Kd.int .i64) _ _ _ 31 [.int .i64 31] from rfl) (Reps.one (show Kd.M (Kd.int .i64) _ _ _ 30 [.int .i64 30] from rfl) (Reps.one (show Kd.M (Kd.int .i64) _ _ _ 31 [.int .i64 31] from rfl) (Reps.one (show Kd.M (Kd.int .i64) _ _ _ 30 [.int .i64 30] from rfl) (Reps.one (show Kd.M (Kd.int .i64) _ _ _ 31 [.int .i64 31] from rfl) (Reps.one (show Kd.M (Kd.int .i64) _ _ _ 31 [.int .i64 31] from rfl) (Reps.one (show Kd.M (Kd.int .i64) _ _ _ 30 [.int .i64 30] from rfl) (Reps.one (show Kd.M (Kd.int .i64) _ _ _ 31 [.int .i64 31] from rfl) (Reps.one (show Kd.M (Kd.int .i64) _ _ _ 30 [.int .i64 30] from rfl) (Reps.one (show Kd.M (Kd.int .i64) _ _ _ 31 [.int .i64 31] from rfl) (Reps.none _ _)))))))))))))); intro v197 w15 ho16 hb hg_ hnew_; clear hg_ hnew_; (first | rw [← Ny196.out] at ho16 | (simp only [Int.reduceToNat] at ho16; rw [← Ny196.out] at ho16)); have n0_ := Aside0.mk (Kd.R_lower ho16 (below_size (by repeat (first | (with_reducible first | exact HB.out | apply below_alloc | apply pw_below_drewN | apply below_drew1) | exact HB.out)))); have n1_ := Aside0.mk (below_step (by repeat (first | (with_reducible first | exact HB.out | apply below_alloc | apply pw_below_drewN | apply below_drew1) | exact HB.out)) hb); clear HB; have HO198 := n0_; have HB := n1_; clear n0_ n1_; clear hb ho16; obtain ⟨Ao17, co17, eo17⟩ := Kd.R_slice HO198.out; subst eo17; have p199 : 0 ≤ ((ji12) : Int) := of_decide_eq_true (by first | (with_reducible assumption) | assumption); have q199 : (ji12) < (y196.length : Int) := of_decide_eq_true (by first | (with_reducible assumption) | assumption); obtain ⟨ad199, e199, hx199_0⟩ := Kd.at_int (Kd.R_reads' HO198.out).2.2 (ji12) p199 q199; cases e199; replace p199 := eq_true p199; replace q199 := eq_true q199))
        go_ret
        exact ⟨by first | rfl | (simp [errW_none, errW_some] <;> rfl) | (simp only [← hji12]; first | rfl | (simp [errW_none, errW_some] <;> rfl)) | (simp [*, errW_none, errW_some] <;> rfl), by repeat (first | (with_reducible first | exact HB.out | apply below_alloc | apply pw_below_drewN | apply below_drew1) | exact HB.out)⟩
      · rw [if_neg c14] at H
        exact absurd H (by simp)
    · rw [if_neg c13] at H
      exact absurd H (by simp)

/-! ### gleberef1_days: function 46 -/
def gleberef1_days.l0 : Nat → Int → Int → Int → Int → Option (Int)
  | 0, _, _, _, _ => none
  | k + 1, x0, x1, x7, x8 => if x8 < x1 then ((gleberef1_month.f x0 x8).bind fun t200 => (gleberef1_days.l0 k x0 x1 (wrap64 (x7 + t200)) (wrap64 (x8 + 1)))) else (some (wrap64 ((wrap64 ((wrap64 ((wrap64 ((wrap64 ((wrap64 ((wrap64 (x7 + (wrap64 (365 * (wrap64 (x0 - 1970)))))) + (wrap64 (Int.tdiv (wrap64 (x0 - 1)) 4)))) - (wrap64 (Int.tdiv (wrap64 (x0 - 1)) 100)))) + (wrap64 (Int.tdiv (wrap64 (x0 - 1)) 400)))) - 492)) + 19)) - 4)))
def gleberef1_days.f (k : Nat) (a0 : Int) (a1 : Int) (a2 : Int) : Option (Int) := gleberef1_days.l0 k a0 a1 (wrap64 (a2 - 1)) 1
theorem gleberef1_days.mono_l : ∀ k, (∀ y0 y1 y2 y3, LeO (gleberef1_days.l0 k y0 y1 y2 y3) (gleberef1_days.l0 (k + 1) y0 y1 y2 y3))
  | 0 => fun _ _ _ _ r h => by simp [gleberef1_days.l0] at h
  | k + 1 => by
    have ih0 := gleberef1_days.mono_l k
    · intro y0 y1 y2 y3
      unfold gleberef1_days.l0
      repeat' first
      | (with_reducible exact ih0 _ _ _ _)
      | (with_reducible exact LeO.refl _)
      | (with_reducible exact LeO.none _)
      | (with_reducible refine LeO.ite ?_ ?_)
      | (with_reducible refine LeO.bind ?_ (fun _ => ?_))
      | exact ih0 _ _ _ _
      | exact LeO.none _
      | refine LeO.ite ?_ ?_
      | refine LeO.bind ?_ (fun _ => ?_)
theorem gleberef1_days.mono : ∀ a0 a1 a2 k, LeO (gleberef1_days.f k a0 a1 a2) (gleberef1_days.f (k + 1) a0 a1 a2) := by
  intro a0 a1 a2 k
  have ih0 := gleberef1_days.mono_l k
  unfold gleberef1_days.f
  repeat' first
      | (with_reducible exact ih0 _ _ _ _)
      | (with_reducible exact LeO.refl _)
      | (with_reducible exact LeO.none _)
      | (with_reducible refine LeO.ite ?_ ?_)
      | (with_reducible refine LeO.bind ?_ (fun _ => ?_))
      | exact ih0 _ _ _ _
      | exact LeO.none _
      | refine LeO.ite ?_ ?_
      | refine LeO.bind ?_ (fun _ => ?_)
set_option maxHeartbeats 8000000 in
set_option maxRecDepth 100000 in
theorem gleberef1_days.calls (k : Nat) (a0 : Int) (a1 : Int) (a2 : Int) (r : Int) (w : World) (h : gleberef1_days.f k a0 a1 a2 = some r) :
    Calls Tryd.prog 46 #[.int .i64 a0, .int .i64 a1, .int .i64 a2] w fun e w' => e = .returned (.int .i64 r) ∧ Below w.heap.size w w' := by
  have HB := Aside0.mk (Below.refl w.heap.size w)
  have H : (gleberef1_days.l0 k a0 a1 (wrap64 (a2 - 1)) 1) = some r := h
  clear h
  have H' := Aside0.mk H
  clear H
  go_enter Tryd.func46, Tryd.ntmps46
  go_wp2
  go_loopg [7, 8] k (fun kq v7 v8 w' => ∃ (x7_1 : Int) (x8_1 : Int), v7 = .int .i64 x7_1 ∧ v8 = .int .i64 x8_1 ∧ Aside0 (gleberef1_days.l0 kq a0 a1 x7_1 x8_1 = some r) ∧ Aside0 (kq ≤ k) ∧ Aside0 (Below w.heap.size w w'))
  case atStart => exact ⟨(wrap64 (a2 - 1)), (1), (by first | rfl | (simp only [i64_w]; done) | (simp; done) | (simp [*]; done)), (by first | rfl | (simp only [i64_w]; done) | (simp; done) | (simp [*]; done)), H', ⟨Nat.le_refl _⟩, ⟨by repeat (first | (with_reducible first | exact HB.out | apply below_alloc | apply pw_below_drewN | apply below_drew1) | exact HB.out)⟩⟩
  case round =>
    clear H'
    try clear p2
    obtain ⟨x7_1, x8_1, rfl, rfl, HA, HK1, HB⟩ := hrel
    cases gk with
    | zero => exact absurd HA.out (by simp [gleberef1_days.l0])
    | succ k1 =>
      have H := HA.out
      clear HA
      simp only [gleberef1_days.l0] at H
      by_cases c4 : x8_1 < a1
      · rw [if_pos c4] at H
        have c4b0 : decide (x8_1 < a1) = true := decide_eq_true c4
        clear c4
        replace H := Option.bind_eq_some_iff.mp H
        obtain ⟨t200, A50, H⟩ := H
        replace H : (gleberef1_days.l0 k1 a0 a1 (wrap64 (x7_1 + t200)) (wrap64 (x8_1 + 1))) = some r := H
        have A5 := Aside0.mk A50
        clear A50
        have H' := Aside0.mk H
        clear H
        go_wp2_with (first | ((with_reducible refine gate_callee (f := 49) rfl ?_); refine goesL_ (some 20) rfl rfl Tryd.func49 (by kernel_rfl) rfl #[.int .i64 a0, .int .i64 x8_1] rfl (by (try simp only [List.map_toArray, List.map_cons, List.map_nil]); first | done | rfl | (simp only [List.length_drop, List.length_take]; rfl)) ?_; (with_reducible refine (gleberef1_month.calls a0 x8_1 t200 _ A5.out).mono ?_); rintro e w6 ⟨rfl, hb⟩; refine ⟨_, rfl, ?_⟩; have n0_ := Aside0.mk (below_step (by repeat (first | (with_reducible first | exact HB.out | apply below_alloc | apply pw_below_drewN | apply below_drew1) | exact HB.out)) hb); clear HB; have HB := n0_; clear n0_; (try clear hb); (try clear hb2); (try clear hk); (try clear hi)))
        go_roundg k1
        case measure => have := HK1.out; omega
        case rel => exact ⟨(wrap64 (x7_1 + t200)), (wrap64 (x8_1 + 1)), (by first | rfl | (simp only [i64_w]; done) | (simp; done) | (simp [*]; done)), (by first | rfl | (simp only [i64_w]; done) | (simp; done) | (simp [*]; done)), H', ⟨by have := HK1.out; omega⟩, ⟨by repeat (first | (with_reducible first | exact HB.out | apply below_alloc | apply pw_below_drewN | apply below_drew1) | exact HB.out)⟩⟩
      · rw [if_neg c4] at H
        have c4b0 : decide (x8_1 < a1) = false := decide_eq_false c4
        clear c4
        obtain rfl := Option.some.inj H
        go_wp2
        go_ret
        exact ⟨by first | rfl | (simp [errW_none, errW_some] <;> rfl) | (simp [*, errW_none, errW_some] <;> rfl), by repeat (first | (with_reducible first | exact HB.out | apply below_alloc | apply pw_below_drewN | apply below_drew1) | exact HB.out)⟩

/-! ### gleberef1_two: function 47 -/
def gleberef1_two.f (k : Nat) (a0 : Int) : Option (ByteArray) := if a0 < 10 then ((gleberef1_Text.f k (IntKind.u64.wrap (a0))).bind fun t201 => (if 1 + t201.size ≤ 9223372036854775807 then (some ((⟨#[48]⟩ : ByteArray) ++ t201)) else (none))) else ((gleberef1_Text.f k (IntKind.u64.wrap (a0))).bind fun t202 => (some t202))
theorem gleberef1_two.mono : ∀ a0 k, LeO (gleberef1_two.f k a0) (gleberef1_two.f (k + 1) a0) := by
  intro a0 k
  unfold gleberef1_two.f
  repeat' first
      | (with_reducible exact gleberef1_Text.mono _ _)
      | (with_reducible exact LeO.refl _)
      | (with_reducible exact LeO.none _)
      | (with_reducible refine LeO.ite ?_ ?_)
      | (with_reducible refine LeO.bind ?_ (fun _ => ?_))
      | exact gleberef1_Text.mono _ _
      | exact LeO.none _
      | refine LeO.ite ?_ ?_
      | refine LeO.bind ?_ (fun _ => ?_)
set_option maxHeartbeats 8000000 in
set_option maxRecDepth 100000 in
theorem gleberef1_two.calls (k : Nat) (a0 : Int) (r : ByteArray) (w : World) (h : gleberef1_two.f k a0 = some r) :
    Calls Tryd.prog 47 #[.int .i64 a0] w fun e w' => e = .returned (.string r) ∧ Below w.heap.size w w' := by
  have HB := Aside0.mk (Below.refl w.heap.size w)
  have H : (if a0 < 10 then ((gleberef1_Text.f k (IntKind.u64.wrap (a0))).bind fun t201 => (if 1 + t201.size ≤ 9223372036854775807 then (some ((⟨#[48]⟩ : ByteArray) ++ t201)) else (none))) else ((gleberef1_Text.f k (IntKind.u64.wrap (a0))).bind fun t202 => (some t202))) = some r := h
  clear h
  by_cases c2 : a0 < 10
  · rw [if_pos c2] at H
    have c2b0 : decide (a0 < 10) = true := decide_eq_true c2
    clear c2
    replace H := Option.bind_eq_some_iff.mp H
    obtain ⟨t201, A30, H⟩ := H
    replace H : (if 1 + t201.size ≤ 9223372036854775807 then (some ((⟨#[48]⟩ : ByteArray) ++ t201)) else (none)) = some r := H
    have A3 := Aside0.mk A30
    clear A30
    by_cases c4 : 1 + t201.size ≤ 9223372036854775807
    · rw [if_pos c4] at H
      have c4b0 := eq_true c4
      have c4b1 : decide (1 + t201.size ≤ 9223372036854775807) = true := decide_eq_true c4
      try have c4b2 : (9223372036854775807 < 1 + t201.size) = False := eq_false (Nat.not_lt.2 c4)
      obtain rfl := Option.some.inj H
      go_enter Tryd.func47, Tryd.ntmps47
      go_wp2_with (first | ((with_reducible refine gate_callee (f := 24) rfl ?_); refine goesL_ (some 7) rfl rfl Tryd.func24 (by kernel_rfl) rfl #[.int .u64 (IntKind.u64.wrap (a0))] rfl (by (try simp only [List.map_toArray, List.map_cons, List.map_nil]); first | done | rfl | (simp only [List.length_drop, List.length_take]; rfl)) ?_; (with_reducible refine (gleberef1_Text.calls k (IntKind.u64.wrap (a0)) t201 _ A3.out).mono ?_); rintro e w5 ⟨rfl, hb⟩; refine ⟨_, rfl, ?_⟩; have n0_ := Aside0.mk (below_step (by repeat (first | (with_reducible first | exact HB.out | apply below_alloc | apply pw_below_drewN | apply below_drew1) | exact HB.out)) hb); clear HB; have HB := n0_; clear n0_; (try clear hb); (try clear hb2); (try clear hk); (try clear hi)))
      go_ret
      exact ⟨by first | rfl | (simp [errW_none, errW_some] <;> rfl) | (simp [*, errW_none, errW_some] <;> rfl), by repeat (first | (with_reducible first | exact HB.out | apply below_alloc | apply pw_below_drewN | apply below_drew1) | exact HB.out)⟩
    · rw [if_neg c4] at H
      exact absurd H (by simp)
  · rw [if_neg c2] at H
    have c2b0 : decide (a0 < 10) = false := decide_eq_false c2
    clear c2
    replace H := Option.bind_eq_some_iff.mp H
    obtain ⟨t202, A60, H⟩ := H
    replace H : (some t202) = some r := H
    have A6 := Aside0.mk A60
    clear A60
    obtain rfl := Option.some.inj H
    go_enter Tryd.func47, Tryd.ntmps47
    go_wp2_with (first | ((with_reducible refine gate_callee (f := 24) rfl ?_); refine goesL_ (some 11) rfl rfl Tryd.func24 (by kernel_rfl) rfl #[.int .u64 (IntKind.u64.wrap (a0))] rfl (by (try simp only [List.map_toArray, List.map_cons, List.map_nil]); first | done | rfl | (simp only [List.length_drop, List.length_take]; rfl)) ?_; (with_reducible refine (gleberef1_Text.calls k (IntKind.u64.wrap (a0)) t202 _ A6.out).mono ?_); rintro e w7 ⟨rfl, hb⟩; refine ⟨_, rfl, ?_⟩; have n0_ := Aside0.mk (below_step (by repeat (first | (with_reducible first | exact HB.out | apply below_alloc | apply pw_below_drewN | apply below_drew1) | exact HB.out)) hb); clear HB; have HB := n0_; clear n0_; (try clear hb); (try clear hb2); (try clear hk); (try clear hi)))
    go_ret
    exact ⟨by first | rfl | (simp [errW_none, errW_some] <;> rfl) | (simp [*, errW_none, errW_some] <;> rfl), by repeat (first | (with_reducible first | exact HB.out | apply below_alloc | apply pw_below_drewN | apply below_drew1) | exact HB.out)⟩

/-! ### gleberef1_PrintDate: function 21 -/
mutual
def gleberef1_PrintDate.j1 : Nat → Int → Int → Int → Option (ByteArray × ByteArray × Bool)
  | 0, _, _, _ => none
  | k + 1, x5, x6, x7 => gleberef1_PrintDate.l1 k x5 x6 x7 1
def gleberef1_PrintDate.j3 : Nat → Int → Int → Int → Int → Option (ByteArray × ByteArray × Bool)
  | 0, _, _, _, _ => none
  | k + 1, x5, x6, x7, x8 => (gleberef1_days.f k x7 x8 1).bind fun t205 => ((gleberef1_Text.f k (IntKind.u64.wrap (x7))).bind fun t206 => (if t206.size + 1 ≤ 9223372036854775807 then ((gleberef1_two.f k x8).bind fun t207 => (if t206.size + 1 + t207.size ≤ 9223372036854775807 then (if t206.size + 1 + t207.size + 1 ≤ 9223372036854775807 then ((gleberef1_two.f k (wrap64 ((wrap64 (x5 - t205)) + 1))).bind fun t208 => (if t206.size + 1 + t207.size + 1 + t208.size ≤ 9223372036854775807 then ((gleberef1_two.f k (wrap64 (Int.tdiv x6 3600))).bind fun t209 => (if t209.size + 1 ≤ 9223372036854775807 then ((gleberef1_two.f k (Int.tmod (wrap64 (Int.tdiv x6 60)) 60)).bind fun t210 => (if t209.size + 1 + t210.size ≤ 9223372036854775807 then (if t209.size + 1 + t210.size + 1 ≤ 9223372036854775807 then ((gleberef1_two.f k (Int.tmod x6 60)).bind fun t211 => (if t209.size + 1 + t210.size + 1 + t211.size ≤ 9223372036854775807 then (some ((((t206 ++ (⟨#[47]⟩ : ByteArray)) ++ t207) ++ (⟨#[47]⟩ : ByteArray)) ++ t208, (((t209 ++ (⟨#[58]⟩ : ByteArray)) ++ t210) ++ (⟨#[58]⟩ : ByteArray)) ++ t211, true)) else (none))) else (none)) else (none))) else (none))) else (none))) else (none)) else (none))) else (none)))
def gleberef1_PrintDate.l1 : Nat → Int → Int → Int → Int → Option (ByteArray × ByteArray × Bool)
  | 0, _, _, _, _ => none
  | k + 1, x5, x6, x7, x8 => if x8 < 12 then ((gleberef1_days.f k x7 (wrap64 (x8 + 1)) 1).bind fun t204 => (if t204 ≤ x5 then (gleberef1_PrintDate.l1 k x5 x6 x7 (wrap64 (x8 + 1))) else (gleberef1_PrintDate.j3 k x5 x6 x7 x8))) else (gleberef1_PrintDate.j3 k x5 x6 x7 x8)
def gleberef1_PrintDate.l0 : Nat → Int → Int → Int → Option (ByteArray × ByteArray × Bool)
  | 0, _, _, _ => none
  | k + 1, x5, x6, x7 => if x7 < 9999 then ((gleberef1_days.f k (wrap64 (x7 + 1)) 1 1).bind fun t203 => (if t203 ≤ x5 then (gleberef1_PrintDate.l0 k x5 x6 (wrap64 (x7 + 1))) else (gleberef1_PrintDate.j1 k x5 x6 x7))) else (gleberef1_PrintDate.j1 k x5 x6 x7)
end
def gleberef1_PrintDate.f (k : Nat) (a0 : Int) : Option (ByteArray × ByteArray × Bool) := if a0 > 253402300799 then (some ((⟨#[]⟩ : ByteArray), (⟨#[]⟩ : ByteArray), false)) else (gleberef1_PrintDate.l0 k (wrap64 (IntKind.u64.wrap (Int.tdiv a0 86400))) (wrap64 (Int.tmod a0 86400)) (wrap64 (1970 + (wrap64 (Int.tdiv (wrap64 (IntKind.u64.wrap (Int.tdiv a0 86400))) 366)))))
theorem gleberef1_PrintDate.mono_l : ∀ k, (∀ y0 y1 y2, LeO (gleberef1_PrintDate.j1 k y0 y1 y2) (gleberef1_PrintDate.j1 (k + 1) y0 y1 y2)) ∧ (∀ y0 y1 y2 y3, LeO (gleberef1_PrintDate.j3 k y0 y1 y2 y3) (gleberef1_PrintDate.j3 (k + 1) y0 y1 y2 y3)) ∧ (∀ y0 y1 y2 y3, LeO (gleberef1_PrintDate.l1 k y0 y1 y2 y3) (gleberef1_PrintDate.l1 (k + 1) y0 y1 y2 y3)) ∧ (∀ y0 y1 y2, LeO (gleberef1_PrintDate.l0 k y0 y1 y2) (gleberef1_PrintDate.l0 (k + 1) y0 y1 y2))
  | 0 => ⟨fun _ _ _ r h => by simp [gleberef1_PrintDate.j1] at h, fun _ _ _ _ r h => by simp [gleberef1_PrintDate.j3] at h, fun _ _ _ _ r h => by simp [gleberef1_PrintDate.l1] at h, fun _ _ _ r h => by simp [gleberef1_PrintDate.l0] at h⟩
  | k + 1 => by
    obtain ⟨ih0, ih1, ih2, ih3⟩ := gleberef1_PrintDate.mono_l k
    refine ⟨?_, ?_, ?_, ?_⟩
    · intro y0 y1 y2
      unfold gleberef1_PrintDate.j1
      repeat' first
      | (with_reducible exact ih0 _ _ _)
      | (with_reducible exact ih1 _ _ _ _)
      | (with_reducible exact ih2 _ _ _ _)
      | (with_reducible exact ih3 _ _ _)
      | (with_reducible exact gleberef1_Text.mono _ _)
      | (with_reducible exact gleberef1_days.mono _ _ _ _)
      | (with_reducible exact gleberef1_two.mono _ _)
      | (with_reducible exact LeO.refl _)
      | (with_reducible exact LeO.none _)
      | (with_reducible refine LeO.ite ?_ ?_)
      | (with_reducible refine LeO.bind ?_ (fun _ => ?_))
      | exact ih0 _ _ _
      | exact ih1 _ _ _ _
      | exact ih2 _ _ _ _
      | exact ih3 _ _ _
      | exact gleberef1_Text.mono _ _
      | exact gleberef1_days.mono _ _ _ _
      | exact gleberef1_two.mono _ _
      | exact LeO.none _
      | refine LeO.ite ?_ ?_
      | refine LeO.bind ?_ (fun _ => ?_)
    · intro y0 y1 y2 y3
      unfold gleberef1_PrintDate.j3
      repeat' first
      | (with_reducible exact ih0 _ _ _)
      | (with_reducible exact ih1 _ _ _ _)
      | (with_reducible exact ih2 _ _ _ _)
      | (with_reducible exact ih3 _ _ _)
      | (with_reducible exact gleberef1_Text.mono _ _)
      | (with_reducible exact gleberef1_days.mono _ _ _ _)
      | (with_reducible exact gleberef1_two.mono _ _)
      | (with_reducible exact LeO.refl _)
      | (with_reducible exact LeO.none _)
      | (with_reducible refine LeO.ite ?_ ?_)
      | (with_reducible refine LeO.bind ?_ (fun _ => ?_))
      | exact ih0 _ _ _
      | exact ih1 _ _ _ _
      | exact ih2 _ _ _ _
      | exact ih3 _ _ _
      | exact gleberef1_Text.mono _ _
      | exact gleberef1_days.mono _ _ _ _
      | exact gleberef1_two.mono _ _
      | exact LeO.none _
      | refine LeO.ite ?_ ?_
      | refine LeO.bind ?_ (fun _ => ?_)
    · intro y0 y1 y2 y3
      unfold gleberef1_PrintDate.l1
      repeat' first
      | (with_reducible exact ih0 _ _ _)
      | (with_reducible exact ih1 _ _ _ _)
      | (with_reducible exact ih2 _ _ _ _)
      | (with_reducible exact ih3 _ _ _)
      | (with_reducible exact gleberef1_Text.mono _ _)
      | (with_reducible exact gleberef1_days.mono _ _ _ _)
      | (with_reducible exact gleberef1_two.mono _ _)
      | (with_reducible exact LeO.refl _)
      | (with_reducible exact LeO.none _)
      | (with_reducible refine LeO.ite ?_ ?_)
      | (with_reducible refine LeO.bind ?_ (fun _ => ?_))
      | exact ih0 _ _ _
      | exact ih1 _ _ _ _
      | exact ih2 _ _ _ _
      | exact ih3 _ _ _
      | exact gleberef1_Text.mono _ _
      | exact gleberef1_days.mono _ _ _ _
      | exact gleberef1_two.mono _ _
      | exact LeO.none _
      | refine LeO.ite ?_ ?_
      | refine LeO.bind ?_ (fun _ => ?_)
    · intro y0 y1 y2
      unfold gleberef1_PrintDate.l0
      repeat' first
      | (with_reducible exact ih0 _ _ _)
      | (with_reducible exact ih1 _ _ _ _)
      | (with_reducible exact ih2 _ _ _ _)
      | (with_reducible exact ih3 _ _ _)
      | (with_reducible exact gleberef1_Text.mono _ _)
      | (with_reducible exact gleberef1_days.mono _ _ _ _)
      | (with_reducible exact gleberef1_two.mono _ _)
      | (with_reducible exact LeO.refl _)
      | (with_reducible exact LeO.none _)
      | (with_reducible refine LeO.ite ?_ ?_)
      | (with_reducible refine LeO.bind ?_ (fun _ => ?_))
      | exact ih0 _ _ _
      | exact ih1 _ _ _ _
      | exact ih2 _ _ _ _
      | exact ih3 _ _ _
      | exact gleberef1_Text.mono _ _
      | exact gleberef1_days.mono _ _ _ _
      | exact gleberef1_two.mono _ _
      | exact LeO.none _
      | refine LeO.ite ?_ ?_
      | refine LeO.bind ?_ (fun _ => ?_)
theorem gleberef1_PrintDate.mono : ∀ a0 k, LeO (gleberef1_PrintDate.f k a0) (gleberef1_PrintDate.f (k + 1) a0) := by
  intro a0 k
  obtain ⟨ih0, ih1, ih2, ih3⟩ := gleberef1_PrintDate.mono_l k
  unfold gleberef1_PrintDate.f
  repeat' first
      | (with_reducible exact ih0 _ _ _)
      | (with_reducible exact ih1 _ _ _ _)
      | (with_reducible exact ih2 _ _ _ _)
      | (with_reducible exact ih3 _ _ _)
      | (with_reducible exact gleberef1_Text.mono _ _)
      | (with_reducible exact gleberef1_days.mono _ _ _ _)
      | (with_reducible exact gleberef1_two.mono _ _)
      | (with_reducible exact LeO.refl _)
      | (with_reducible exact LeO.none _)
      | (with_reducible refine LeO.ite ?_ ?_)
      | (with_reducible refine LeO.bind ?_ (fun _ => ?_))
      | exact ih0 _ _ _
      | exact ih1 _ _ _ _
      | exact ih2 _ _ _ _
      | exact ih3 _ _ _
      | exact gleberef1_Text.mono _ _
      | exact gleberef1_days.mono _ _ _ _
      | exact gleberef1_two.mono _ _
      | exact LeO.none _
      | refine LeO.ite ?_ ?_
      | refine LeO.bind ?_ (fun _ => ?_)
set_option maxHeartbeats 8000000 in
set_option maxRecDepth 100000 in
theorem gleberef1_PrintDate.calls (k : Nat) (a0 : Int) (r1 : ByteArray) (r2 : ByteArray) (r3 : Bool) (w : World) (h : gleberef1_PrintDate.f k a0 = some (r1, r2, r3)) :
    Calls Tryd.prog 21 #[.int .u64 a0] w fun e w' => e = .returned (.tuple #[.string r1, .string r2, .bool r3]) ∧ Below w.heap.size w w' := by
  have HB := Aside0.mk (Below.refl w.heap.size w)
  have H : (if a0 > 253402300799 then (some ((⟨#[]⟩ : ByteArray), (⟨#[]⟩ : ByteArray), false)) else (gleberef1_PrintDate.l0 k (wrap64 (IntKind.u64.wrap (Int.tdiv a0 86400))) (wrap64 (Int.tmod a0 86400)) (wrap64 (1970 + (wrap64 (Int.tdiv (wrap64 (IntKind.u64.wrap (Int.tdiv a0 86400))) 366)))))) = some (r1, r2, r3) := h
  clear h
  by_cases c2 : a0 > 253402300799
  · rw [if_pos c2] at H
    have c2b0 : decide (253402300799 < a0) = true := decide_eq_true c2
    clear c2
    simp only [Option.some.injEq, Prod.mk.injEq] at H
    obtain ⟨rfl, rfl, rfl⟩ := H
    go_enter Tryd.func21, Tryd.ntmps21
    go_wp2
    go_ret3
    exact ⟨by first | rfl | (simp [errW_none, errW_some] <;> rfl) | (simp [*, errW_none, errW_some] <;> rfl), by repeat (first | (with_reducible first | exact HB.out | apply below_alloc | apply pw_below_drewN | apply below_drew1) | exact HB.out)⟩
  · rw [if_neg c2] at H
    have c2b0 : decide (253402300799 < a0) = false := decide_eq_false c2
    clear c2
    have HC3 := Aside0.mk H
    clear H
    go_enter Tryd.func21, Tryd.ntmps21
    go_upto_block 0 with (fail)
    go_cut [7] (fun v7 wc => ∃ (kq : Nat) (x7_2 : Int), v7 = .int .i64 x7_2 ∧ Aside0 (gleberef1_PrintDate.j1 kq (wrap64 (IntKind.u64.wrap (Int.tdiv a0 86400))) (wrap64 (Int.tmod a0 86400)) x7_2 = some (r1, r2, r3)) ∧ Aside0 (kq ≤ k) ∧ Aside0 (Below w.heap.size w wc))
    case first =>
      have H := HC3.out
      clear HC3
      have H' := Aside0.mk H
      clear H
      go_wp2
      go_loopg [7] k (fun kq v7 w' => ∃ (x7_1 : Int), v7 = .int .i64 x7_1 ∧ Aside0 (gleberef1_PrintDate.l0 kq (wrap64 (IntKind.u64.wrap (Int.tdiv a0 86400))) (wrap64 (Int.tmod a0 86400)) x7_1 = some (r1, r2, r3)) ∧ Aside0 (kq ≤ k) ∧ Aside0 (Below w.heap.size w w'))
      case atStart => exact ⟨(wrap64 (1970 + (wrap64 (Int.tdiv (wrap64 (IntKind.u64.wrap (Int.tdiv a0 86400))) 366)))), (by first | rfl | (simp only [i64_w]; done) | (simp; done) | (simp [*]; done)), H', ⟨Nat.le_refl _⟩, ⟨by repeat (first | (with_reducible first | exact HB.out | apply below_alloc | apply pw_below_drewN | apply below_drew1) | exact HB.out)⟩⟩
      case round =>
        clear H'
        try clear c2
        try clear c2b0
        try clear p2
        obtain ⟨x7_1, rfl, HA, HK1, HB⟩ := hrel
        cases gk with
        | zero => exact absurd HA.out (by simp [gleberef1_PrintDate.l0])
        | succ k1 =>
          have H := HA.out
          clear HA
          simp only [gleberef1_PrintDate.l0] at H
          by_cases c4 : x7_1 < 9999
          · rw [if_pos c4] at H
            have c4b0 : decide (x7_1 < 9999) = true := decide_eq_true c4
            clear c4
            (first | rw [c4b0] | (simp only [i64_w, i32_w]; rw [c4b0]) | skip)
            replace H := Option.bind_eq_some_iff.mp H
            obtain ⟨t203, A50, H⟩ := H
            replace H : (if t203 ≤ (wrap64 (IntKind.u64.wrap (Int.tdiv a0 86400))) then (gleberef1_PrintDate.l0 k1 (wrap64 (IntKind.u64.wrap (Int.tdiv a0 86400))) (wrap64 (Int.tmod a0 86400)) (wrap64 (x7_1 + 1))) else (gleberef1_PrintDate.j1 k1 (wrap64 (IntKind.u64.wrap (Int.tdiv a0 86400))) (wrap64 (Int.tmod a0 86400)) x7_1)) = some (r1, r2, r3) := H
            have A5 := Aside0.mk A50
            clear A50
            by_cases c6 : t203 ≤ (wrap64 (IntKind.u64.wrap (Int.tdiv a0 86400)))
            · rw [if_pos c6] at H
              have c6b0 : decide (t203 ≤ (wrap64 (IntKind.u64.wrap (Int.tdiv a0 86400)))) = true := decide_eq_true c6
              clear c6
              have H' := Aside0.mk H
              clear H
              go_wp2_with (first | (go_at_call 46; (with_reducible refine (gleberef1_days.calls k1 (wrap64 (x7_1 + 1)) 1 1 t203 _ A5.out).mono ?_); rintro e w7 ⟨rfl, hb⟩; have n0_ := Aside0.mk (below_step (by repeat (first | (with_reducible first | exact HB.out | apply below_alloc | apply pw_below_drewN | apply below_drew1) | exact HB.out)) hb); clear HB; have HB := n0_; clear n0_; (try clear hb); (try clear hb2); (try clear hk); (try clear hi)))
              go_roundg k1
              case measure => have := HK1.out; omega
              case rel => exact ⟨(wrap64 (x7_1 + 1)), (by first | rfl | (simp only [i64_w]; done) | (simp; done) | (simp [*]; done)), H', ⟨by have := HK1.out; omega⟩, ⟨by repeat (first | (with_reducible first | exact HB.out | apply below_alloc | apply pw_below_drewN | apply below_drew1) | exact HB.out)⟩⟩
            · rw [if_neg c6] at H
              have c6b0 : decide (t203 ≤ (wrap64 (IntKind.u64.wrap (Int.tdiv a0 86400)))) = false := decide_eq_false c6
              clear c6
              have H' := Aside0.mk H
              clear H
              go_wp2_with (first | (go_at_call 46; (with_reducible refine (gleberef1_days.calls k1 (wrap64 (x7_1 + 1)) 1 1 t203 _ A5.out).mono ?_); rintro e w8 ⟨rfl, hb⟩; have n0_ := Aside0.mk (below_step (by repeat (first | (with_reducible first | exact HB.out | apply below_alloc | apply pw_below_drewN | apply below_drew1) | exact HB.out)) hb); clear HB; have HB := n0_; clear n0_; (try clear hb); (try clear hb2); (try clear hk); (try clear hi)))
              go_meet
              case rel => exact ⟨_, (x7_1), (by first | rfl | (simp only [i64_w]; done) | (simp; done) | (simp [*]; done)), H', ⟨by have := HK1.out; first | omega | exact Nat.le_refl _⟩, ⟨by repeat (first | (with_reducible first | exact HB.out | apply below_alloc | apply pw_below_drewN | apply below_drew1) | exact HB.out)⟩⟩
          · rw [if_neg c4] at H
            have c4b0 : decide (x7_1 < 9999) = false := decide_eq_false c4
            clear c4
            (first | rw [c4b0] | (simp only [i64_w, i32_w]; rw [c4b0]) | skip)
            have H' := Aside0.mk H
            clear H
            go_wp2
            go_meet
            case rel => exact ⟨_, (x7_1), (by first | rfl | (simp only [i64_w]; done) | (simp; done) | (simp [*]; done)), H', ⟨by have := HK1.out; first | omega | exact Nat.le_refl _⟩, ⟨by repeat (first | (with_reducible first | exact HB.out | apply below_alloc | apply pw_below_drewN | apply below_drew1) | exact HB.out)⟩⟩
    case rest =>
      clear HC3
      try clear c2
      try clear c2b0
      try clear p2
      try clear c4
      try clear c4b0
      try clear c6
      try clear c6b0
      try clear p6
      try clear p2
      obtain ⟨kq, x7_2, rfl, HA, HJ2, HB⟩ := hcut
      cases kq with
      | zero => exact absurd HA.out (by simp [gleberef1_PrintDate.j1])
      | succ kj2 =>
        have H := HA.out
        clear HA
        simp only [gleberef1_PrintDate.j1] at H
        have HC9 := Aside0.mk H
        clear H
        go_upto_block 2 with (fail)
        go_cut [8] (fun v8 wc => ∃ (kq : Nat) (x8_8 : Int), v8 = .int .i64 x8_8 ∧ Aside0 (gleberef1_PrintDate.j3 kq (wrap64 (IntKind.u64.wrap (Int.tdiv a0 86400))) (wrap64 (Int.tmod a0 86400)) x7_2 x8_8 = some (r1, r2, r3)) ∧ Aside0 (kq ≤ kj2) ∧ Aside0 (Below w.heap.size w wc))
        case first =>
          have H := HC9.out
          clear HC9
          have H' := Aside0.mk H
          clear H
          go_wp2
          go_loopg [8] kj2 (fun kq v8 w' => ∃ (x8_2 : Int), v8 = .int .i64 x8_2 ∧ Aside0 (gleberef1_PrintDate.l1 kq (wrap64 (IntKind.u64.wrap (Int.tdiv a0 86400))) (wrap64 (Int.tmod a0 86400)) x7_2 x8_2 = some (r1, r2, r3)) ∧ Aside0 (kq ≤ kj2) ∧ Aside0 (Below w.heap.size w w'))
          case atStart => exact ⟨(1), (by first | rfl | (simp only [i64_w]; done) | (simp; done) | (simp [*]; done)), H', ⟨Nat.le_refl _⟩, ⟨by repeat (first | (with_reducible first | exact HB.out | apply below_alloc | apply pw_below_drewN | apply below_drew1) | exact HB.out)⟩⟩
          case round =>
            clear H'
            try clear c2
            try clear c2b0
            try clear p2
            try clear c4
            try clear c4b0
            try clear c6
            try clear c6b0
            try clear p6
            try clear p2
            try clear p6
            obtain ⟨x8_2, rfl, HA, HK2, HB⟩ := hrel
            cases gk with
            | zero => exact absurd HA.out (by simp [gleberef1_PrintDate.l1])
            | succ k2 =>
              have H := HA.out
              clear HA
              simp only [gleberef1_PrintDate.l1] at H
              by_cases c10 : x8_2 < 12
              · rw [if_pos c10] at H
                have c10b0 : decide (x8_2 < 12) = true := decide_eq_true c10
                clear c10
                (first | rw [c10b0] | (simp only [i64_w, i32_w]; rw [c10b0]) | skip)
                replace H := Option.bind_eq_some_iff.mp H
                obtain ⟨t204, A110, H⟩ := H
                replace H : (if t204 ≤ (wrap64 (IntKind.u64.wrap (Int.tdiv a0 86400))) then (gleberef1_PrintDate.l1 k2 (wrap64 (IntKind.u64.wrap (Int.tdiv a0 86400))) (wrap64 (Int.tmod a0 86400)) x7_2 (wrap64 (x8_2 + 1))) else (gleberef1_PrintDate.j3 k2 (wrap64 (IntKind.u64.wrap (Int.tdiv a0 86400))) (wrap64 (Int.tmod a0 86400)) x7_2 x8_2)) = some (r1, r2, r3) := H
                have A11 := Aside0.mk A110
                clear A110
                by_cases c12 : t204 ≤ (wrap64 (IntKind.u64.wrap (Int.tdiv a0 86400)))
                · rw [if_pos c12] at H
                  have c12b0 : decide (t204 ≤ (wrap64 (IntKind.u64.wrap (Int.tdiv a0 86400)))) = true := decide_eq_true c12
                  clear c12
                  have H' := Aside0.mk H
                  clear H
                  go_wp2_with (first | (go_at_call 46; (with_reducible refine (gleberef1_days.calls k2 x7_2 (wrap64 (x8_2 + 1)) 1 t204 _ A11.out).mono ?_); rintro e w13 ⟨rfl, hb⟩; have n0_ := Aside0.mk (below_step (by repeat (first | (with_reducible first | exact HB.out | apply below_alloc | apply pw_below_drewN | apply below_drew1) | exact HB.out)) hb); clear HB; have HB := n0_; clear n0_; (try clear hb); (try clear hb2); (try clear hk); (try clear hi)))
                  go_roundg k2
                  case measure => have := HJ2.out; have := HK2.out; omega
                  case rel => exact ⟨(wrap64 (x8_2 + 1)), (by first | rfl | (simp only [i64_w]; done) | (simp; done) | (simp [*]; done)), H', ⟨by have := HJ2.out; have := HK2.out; omega⟩, ⟨by repeat (first | (with_reducible first | exact HB.out | apply below_alloc | apply pw_below_drewN | apply below_drew1) | exact HB.out)⟩⟩
                · rw [if_neg c12] at H
                  have c12b0 : decide (t204 ≤ (wrap64 (IntKind.u64.wrap (Int.tdiv a0 86400)))) = false := decide_eq_false c12
                  clear c12
                  have H' := Aside0.mk H
                  clear H
                  go_wp2_with (first | (go_at_call 46; (with_reducible refine (gleberef1_days.calls k2 x7_2 (wrap64 (x8_2 + 1)) 1 t204 _ A11.out).mono ?_); rintro e w14 ⟨rfl, hb⟩; have n0_ := Aside0.mk (below_step (by repeat (first | (with_reducible first | exact HB.out | apply below_alloc | apply pw_below_drewN | apply below_drew1) | exact HB.out)) hb); clear HB; have HB := n0_; clear n0_; (try clear hb); (try clear hb2); (try clear hk); (try clear hi)))
                  go_meet
                  case rel => exact ⟨_, (x8_2), (by first | rfl | (simp only [i64_w]; done) | (simp; done) | (simp [*]; done)), H', ⟨by have := HJ2.out; have := HK2.out; first | omega | exact Nat.le_refl _⟩, ⟨by repeat (first | (with_reducible first | exact HB.out | apply below_alloc | apply pw_below_drewN | apply below_drew1) | exact HB.out)⟩⟩
              · rw [if_neg c10] at H
                have c10b0 : decide (x8_2 < 12) = false := decide_eq_false c10
                clear c10
                (first | rw [c10b0] | (simp only [i64_w, i32_w]; rw [c10b0]) | skip)
                have H' := Aside0.mk H
                clear H
                go_wp2
                go_meet
                case rel => exact ⟨_, (x8_2), (by first | rfl | (simp only [i64_w]; done) | (simp; done) | (simp [*]; done)), H', ⟨by have := HJ2.out; have := HK2.out; first | omega | exact Nat.le_refl _⟩, ⟨by repeat (first | (with_reducible first | exact HB.out | apply below_alloc | apply pw_below_drewN | apply below_drew1) | exact HB.out)⟩⟩
        case rest =>
          clear HC9
          try clear c1
          try clear c2
          try clear c2b0
          try clear p2
          try clear c4
          try clear c4b0
          try clear c6
          try clear c6b0
          try clear p6
          try clear c10
          try clear c10b0
          try clear c12
          try clear c12b0
          try clear p2
          try clear p6
          obtain ⟨kq, x8_8, rfl, HA, HJ8, HB⟩ := hcut
          cases kq with
          | zero => exact absurd HA.out (by simp [gleberef1_PrintDate.j3])
          | succ kj8 =>
            have H := HA.out
            clear HA
            simp only [gleberef1_PrintDate.j3] at H
            replace H := Option.bind_eq_some_iff.mp H
            obtain ⟨t205, A150, H⟩ := H
            replace H : ((gleberef1_Text.f kj8 (IntKind.u64.wrap (x7_2))).bind fun t206 => (if t206.size + 1 ≤ 9223372036854775807 then ((gleberef1_two.f kj8 x8_8).bind fun t207 => (if t206.size + 1 + t207.size ≤ 9223372036854775807 then (if t206.size + 1 + t207.size + 1 ≤ 9223372036854775807 then ((gleberef1_two.f kj8 (wrap64 ((wrap64 ((wrap64 (IntKind.u64.wrap (Int.tdiv a0 86400))) - t205)) + 1))).bind fun t208 => (if t206.size + 1 + t207.size + 1 + t208.size ≤ 9223372036854775807 then ((gleberef1_two.f kj8 (wrap64 (Int.tdiv (wrap64 (Int.tmod a0 86400)) 3600))).bind fun t209 => (if t209.size + 1 ≤ 9223372036854775807 then ((gleberef1_two.f kj8 (Int.tmod (wrap64 (Int.tdiv (wrap64 (Int.tmod a0 86400)) 60)) 60)).bind fun t210 => (if t209.size + 1 + t210.size ≤ 9223372036854775807 then (if t209.size + 1 + t210.size + 1 ≤ 9223372036854775807 then ((gleberef1_two.f kj8 (Int.tmod (wrap64 (Int.tmod a0 86400)) 60)).bind fun t211 => (if t209.size + 1 + t210.size + 1 + t211.size ≤ 9223372036854775807 then (some ((((t206 ++ (⟨#[47]⟩ : ByteArray)) ++ t207) ++ (⟨#[47]⟩ : ByteArray)) ++ t208, (((t209 ++ (⟨#[58]⟩ : ByteArray)) ++ t210) ++ (⟨#[58]⟩ : ByteArray)) ++ t211, true)) else (none))) else (none)) else (none))) else (none))) else (none))) else (none)) else (none))) else (none))) = some (r1, r2, r3) := H
            have A15 := Aside0.mk A150
            clear A150
            replace H := Option.bind_eq_some_iff.mp H
            obtain ⟨t206, A160, H⟩ := H
            replace H : (if t206.size + 1 ≤ 9223372036854775807 then ((gleberef1_two.f kj8 x8_8).bind fun t207 => (if t206.size + 1 + t207.size ≤ 9223372036854775807 then (if t206.size + 1 + t207.size + 1 ≤ 9223372036854775807 then ((gleberef1_two.f kj8 (wrap64 ((wrap64 ((wrap64 (IntKind.u64.wrap (Int.tdiv a0 86400))) - t205)) + 1))).bind fun t208 => (if t206.size + 1 + t207.size + 1 + t208.size ≤ 9223372036854775807 then ((gleberef1_two.f kj8 (wrap64 (Int.tdiv (wrap64 (Int.tmod a0 86400)) 3600))).bind fun t209 => (if t209.size + 1 ≤ 9223372036854775807 then ((gleberef1_two.f kj8 (Int.tmod (wrap64 (Int.tdiv (wrap64 (Int.tmod a0 86400)) 60)) 60)).bind fun t210 => (if t209.size + 1 + t210.size ≤ 9223372036854775807 then (if t209.size + 1 + t210.size + 1 ≤ 9223372036854775807 then ((gleberef1_two.f kj8 (Int.tmod (wrap64 (Int.tmod a0 86400)) 60)).bind fun t211 => (if t209.size + 1 + t210.size + 1 + t211.size ≤ 9223372036854775807 then (some ((((t206 ++ (⟨#[47]⟩ : ByteArray)) ++ t207) ++ (⟨#[47]⟩ : ByteArray)) ++ t208, (((t209 ++ (⟨#[58]⟩ : ByteArray)) ++ t210) ++ (⟨#[58]⟩ : ByteArray)) ++ t211, true)) else (none))) else (none)) else (none))) else (none))) else (none))) else (none)) else (none))) else (none)) = some (r1, r2, r3) := H
            have A16 := Aside0.mk A160
            clear A160
            by_cases c17 : t206.size + 1 ≤ 9223372036854775807
            · rw [if_pos c17] at H
              have c17b0 := eq_true c17
              have c17b1 : decide (t206.size + 1 ≤ 9223372036854775807) = true := decide_eq_true c17
              try have c17b2 : (9223372036854775807 < t206.size + 1) = False := eq_false (Nat.not_lt.2 c17)
              replace H := Option.bind_eq_some_iff.mp H
              obtain ⟨t207, A180, H⟩ := H
              replace H : (if t206.size + 1 + t207.size ≤ 9223372036854775807 then (if t206.size + 1 + t207.size + 1 ≤ 9223372036854775807 then ((gleberef1_two.f kj8 (wrap64 ((wrap64 ((wrap64 (IntKind.u64.wrap (Int.tdiv a0 86400))) - t205)) + 1))).bind fun t208 => (if t206.size + 1 + t207.size + 1 + t208.size ≤ 9223372036854775807 then ((gleberef1_two.f kj8 (wrap64 (Int.tdiv (wrap64 (Int.tmod a0 86400)) 3600))).bind fun t209 => (if t209.size + 1 ≤ 9223372036854775807 then ((gleberef1_two.f kj8 (Int.tmod (wrap64 (Int.tdiv (wrap64 (Int.tmod a0 86400)) 60)) 60)).bind fun t210 => (if t209.size + 1 + t210.size ≤ 9223372036854775807 then (if t209.size + 1 + t210.size + 1 ≤ 9223372036854775807 then ((gleberef1_two.f kj8 (Int.tmod (wrap64 (Int.tmod a0 86400)) 60)).bind fun t211 => (if t209.size + 1 + t210.size + 1 + t211.size ≤ 9223372036854775807 then (some ((((t206 ++ (⟨#[47]⟩ : ByteArray)) ++ t207) ++ (⟨#[47]⟩ : ByteArray)) ++ t208, (((t209 ++ (⟨#[58]⟩ : ByteArray)) ++ t210) ++ (⟨#[58]⟩ : ByteArray)) ++ t211, true)) else (none))) else (none)) else (none))) else (none))) else (none))) else (none)) else (none)) = some (r1, r2, r3) := H
              have A18 := Aside0.mk A180
              clear A180
              by_cases c19 : t206.size + 1 + t207.size ≤ 9223372036854775807
              · rw [if_pos c19] at H
                have c19b0 := eq_true c19
                have c19b1 : decide (t206.size + 1 + t207.size ≤ 9223372036854775807) = true := decide_eq_true c19
                try have c19b2 : (9223372036854775807 < t206.size + 1 + t207.size) = False := eq_false (Nat.not_lt.2 c19)
                by_cases c20 : t206.size + 1 + t207.size + 1 ≤ 9223372036854775807
                · rw [if_pos c20] at H
                  have c20b0 := eq_true c20
                  have c20b1 : decide (t206.size + 1 + t207.size + 1 ≤ 9223372036854775807) = true := decide_eq_true c20
                  try have c20b2 : (9223372036854775807 < t206.size + 1 + t207.size + 1) = False := eq_false (Nat.not_lt.2 c20)
                  replace H := Option.bind_eq_some_iff.mp H
                  obtain ⟨t208, A210, H⟩ := H
                  replace H : (if t206.size + 1 + t207.size + 1 + t208.size ≤ 9223372036854775807 then ((gleberef1_two.f kj8 (wrap64 (Int.tdiv (wrap64 (Int.tmod a0 86400)) 3600))).bind fun t209 => (if t209.size + 1 ≤ 9223372036854775807 then ((gleberef1_two.f kj8 (Int.tmod (wrap64 (Int.tdiv (wrap64 (Int.tmod a0 86400)) 60)) 60)).bind fun t210 => (if t209.size + 1 + t210.size ≤ 9223372036854775807 then (if t209.size + 1 + t210.size + 1 ≤ 9223372036854775807 then ((gleberef1_two.f kj8 (Int.tmod (wrap64 (Int.tmod a0 86400)) 60)).bind fun t211 => (if t209.size + 1 + t210.size + 1 + t211.size ≤ 9223372036854775807 then (some ((((t206 ++ (⟨#[47]⟩ : ByteArray)) ++ t207) ++ (⟨#[47]⟩ : ByteArray)) ++ t208, (((t209 ++ (⟨#[58]⟩ : ByteArray)) ++ t210) ++ (⟨#[58]⟩ : ByteArray)) ++ t211, true)) else (none))) else (none)) else (none))) else (none))) else (none)) = some (r1, r2, r3) := H
                  have A21 := Aside0.mk A210
                  clear A210
                  by_cases c22 : t206.size + 1 + t207.size + 1 + t208.size ≤ 9223372036854775807
                  · rw [if_pos c22] at H
                    have c22b0 := eq_true c22
                    have c22b1 : decide (t206.size + 1 + t207.size + 1 + t208.size ≤ 9223372036854775807) = true := decide_eq_true c22
                    try have c22b2 : (9223372036854775807 < t206.size + 1 + t207.size + 1 + t208.size) = False := eq_false (Nat.not_lt.2 c22)
                    replace H := Option.bind_eq_some_iff.mp H
                    obtain ⟨t209, A230, H⟩ := H
                    replace H : (if t209.size + 1 ≤ 9223372036854775807 then ((gleberef1_two.f kj8 (Int.tmod (wrap64 (Int.tdiv (wrap64 (Int.tmod a0 86400)) 60)) 60)).bind fun t210 => (if t209.size + 1 + t210.size ≤ 9223372036854775807 then (if t209.size + 1 + t210.size + 1 ≤ 9223372036854775807 then ((gleberef1_two.f kj8 (Int.tmod (wrap64 (Int.tmod a0 86400)) 60)).bind fun t211 => (if t209.size + 1 + t210.size + 1 + t211.size ≤ 9223372036854775807 then (some ((((t206 ++ (⟨#[47]⟩ : ByteArray)) ++ t207) ++ (⟨#[47]⟩ : ByteArray)) ++ t208, (((t209 ++ (⟨#[58]⟩ : ByteArray)) ++ t210) ++ (⟨#[58]⟩ : ByteArray)) ++ t211, true)) else (none))) else (none)) else (none))) else (none)) = some (r1, r2, r3) := H
                    have A23 := Aside0.mk A230
                    clear A230
                    by_cases c24 : t209.size + 1 ≤ 9223372036854775807
                    · rw [if_pos c24] at H
                      have c24b0 := eq_true c24
                      have c24b1 : decide (t209.size + 1 ≤ 9223372036854775807) = true := decide_eq_true c24
                      try have c24b2 : (9223372036854775807 < t209.size + 1) = False := eq_false (Nat.not_lt.2 c24)
                      replace H := Option.bind_eq_some_iff.mp H
                      obtain ⟨t210, A250, H⟩ := H
                      replace H : (if t209.size + 1 + t210.size ≤ 9223372036854775807 then (if t209.size + 1 + t210.size + 1 ≤ 9223372036854775807 then ((gleberef1_two.f kj8 (Int.tmod (wrap64 (Int.tmod a0 86400)) 60)).bind fun t211 => (if t209.size + 1 + t210.size + 1 + t211.size ≤ 9223372036854775807 then (some ((((t206 ++ (⟨#[47]⟩ : ByteArray)) ++ t207) ++ (⟨#[47]⟩ : ByteArray)) ++ t208, (((t209 ++ (⟨#[58]⟩ : ByteArray)) ++ t210) ++ (⟨#[58]⟩ : ByteArray)) ++ t211, true)) else (none))) else (none)) else (none)) = some (r1, r2, r3) := H
                      have A25 := Aside0.mk A250
                      clear A250
                      by_cases c26 : t209.size + 1 + t210.size ≤ 9223372036854775807
                      · rw [if_pos c26] at H
                        have c26b0 := eq_true c26
                        have c26b1 : decide (t209.size + 1 + t210.size ≤ 9223372036854775807) = true := decide_eq_true c26
                        try have c26b2 : (9223372036854775807 < t209.size + 1 + t210.size) = False := eq_false (Nat.not_lt.2 c26)
                        by_cases c27 : t209.size + 1 + t210.size + 1 ≤ 9223372036854775807
                        · rw [if_pos c27] at H
                          have c27b0 := eq_true c27
                          have c27b1 : decide (t209.size + 1 + t210.size + 1 ≤ 9223372036854775807) = true := decide_eq_true c27
                          try have c27b2 : (9223372036854775807 < t209.size + 1 + t210.size + 1) = False := eq_false (Nat.not_lt.2 c27)
                          replace H := Option.bind_eq_some_iff.mp H
                          obtain ⟨t211, A280, H⟩ := H
                          replace H : (if t209.size + 1 + t210.size + 1 + t211.size ≤ 9223372036854775807 then (some ((((t206 ++ (⟨#[47]⟩ : ByteArray)) ++ t207) ++ (⟨#[47]⟩ : ByteArray)) ++ t208, (((t209 ++ (⟨#[58]⟩ : ByteArray)) ++ t210) ++ (⟨#[58]⟩ : ByteArray)) ++ t211, true)) else (none)) = some (r1, r2, r3) := H
                          have A28 := Aside0.mk A280
                          clear A280
                          by_cases c29 : t209.size + 1 + t210.size + 1 + t211.size ≤ 9223372036854775807
                          · rw [if_pos c29] at H
                            have c29b0 := eq_true c29
                            have c29b1 : decide (t209.size + 1 + t210.size + 1 + t211.size ≤ 9223372036854775807) = true := decide_eq_true c29
                            try have c29b2 : (9223372036854775807 < t209.size + 1 + t210.size + 1 + t211.size) = False := eq_false (Nat.not_lt.2 c29)
                            simp only [Option.some.injEq, Prod.mk.injEq] at H
                            obtain ⟨rfl, rfl, rfl⟩ := H
                            go_wp2_with (first | ((with_reducible refine gate_callee (f := 46) rfl ?_); refine goesL_ (some 47) rfl rfl Tryd.func46 (by kernel_rfl) rfl #[.int .i64 x7_2, .int .i64 x8_8, .int .i64 1] rfl (by (try simp only [List.map_toArray, List.map_cons, List.map_nil]); first | done | rfl | (simp only [List.length_drop, List.length_take]; rfl)) ?_; (with_reducible refine (gleberef1_days.calls kj8 x7_2 x8_8 1 t205 _ A15.out).mono ?_); rintro e w30 ⟨rfl, hb⟩; refine ⟨_, rfl, ?_⟩; have n0_ := Aside0.mk (below_step (by repeat (first | (with_reducible first | exact HB.out | apply below_alloc | apply pw_below_drewN | apply below_drew1) | exact HB.out)) hb); clear HB; have HB := n0_; clear n0_; (try clear hb); (try clear hb2); (try clear hk); (try clear hi)) | ((with_reducible refine gate_callee (f := 24) rfl ?_); refine goesL_ (some 52) rfl rfl Tryd.func24 (by kernel_rfl) rfl #[.int .u64 (IntKind.u64.wrap (x7_2))] rfl (by (try simp only [List.map_toArray, List.map_cons, List.map_nil]); first | done | rfl | (simp only [List.length_drop, List.length_take]; rfl)) ?_; (with_reducible refine (gleberef1_Text.calls kj8 (IntKind.u64.wrap (x7_2)) t206 _ A16.out).mono ?_); rintro e w31 ⟨rfl, hb⟩; refine ⟨_, rfl, ?_⟩; have n0_ := Aside0.mk (below_step (by repeat (first | (with_reducible first | exact HB.out | apply below_alloc | apply pw_below_drewN | apply below_drew1) | exact HB.out)) hb); clear HB; have HB := n0_; clear n0_; (try clear hb); (try clear hb2); (try clear hk); (try clear hi)) | ((with_reducible refine gate_callee (f := 47) rfl ?_); refine goesL_ (some 55) rfl rfl Tryd.func47 (by kernel_rfl) rfl #[.int .i64 x8_8] rfl (by (try simp only [List.map_toArray, List.map_cons, List.map_nil]); first | done | rfl | (simp only [List.length_drop, List.length_take]; rfl)) ?_; (with_reducible refine (gleberef1_two.calls kj8 x8_8 t207 _ A18.out).mono ?_); rintro e w32 ⟨rfl, hb⟩; refine ⟨_, rfl, ?_⟩; have n0_ := Aside0.mk (below_step (by repeat (first | (with_reducible first | exact HB.out | apply below_alloc | apply pw_below_drewN | apply below_drew1) | exact HB.out)) hb); clear HB; have HB := n0_; clear n0_; (try clear hb); (try clear hb2); (try clear hk); (try clear hi)) | ((with_reducible refine gate_callee (f := 47) rfl ?_); refine goesL_ (some 59) rfl rfl Tryd.func47 (by kernel_rfl) rfl #[.int .i64 (wrap64 ((wrap64 ((wrap64 (IntKind.u64.wrap (Int.tdiv a0 86400))) - t205)) + 1))] rfl (by (try simp only [List.map_toArray, List.map_cons, List.map_nil]); first | done | rfl | (simp only [List.length_drop, List.length_take]; rfl)) ?_; (with_reducible refine (gleberef1_two.calls kj8 (wrap64 ((wrap64 ((wrap64 (IntKind.u64.wrap (Int.tdiv a0 86400))) - t205)) + 1)) t208 _ A21.out).mono ?_); rintro e w33 ⟨rfl, hb⟩; refine ⟨_, rfl, ?_⟩; have n0_ := Aside0.mk (below_step (by repeat (first | (with_reducible first | exact HB.out | apply below_alloc | apply pw_below_drewN | apply below_drew1) | exact HB.out)) hb); clear HB; have HB := n0_; clear n0_; (try clear hb); (try clear hb2); (try clear hk); (try clear hi)) | ((with_reducible refine gate_callee (f := 47) rfl ?_); refine goesL_ (some 63) rfl rfl Tryd.func47 (by kernel_rfl) rfl #[.int .i64 (wrap64 (Int.tdiv (wrap64 (Int.tmod a0 86400)) 3600))] rfl (by (try simp only [List.map_toArray, List.map_cons, List.map_nil]); first | done | rfl | (simp only [List.length_drop, List.length_take]; rfl)) ?_; (with_reducible refine (gleberef1_two.calls kj8 (wrap64 (Int.tdiv (wrap64 (Int.tmod a0 86400)) 3600)) t209 _ A23.out).mono ?_); rintro e w34 ⟨rfl, hb⟩; refine ⟨_, rfl, ?_⟩; have n0_ := Aside0.mk (below_step (by repeat (first | (with_reducible first | exact HB.out | apply below_alloc | apply pw_below_drewN | apply below_drew1) | exact HB.out)) hb); clear HB; have HB := n0_; clear n0_; (try clear hb); (try clear hb2); (try clear hk); (try clear hi)) | ((with_reducible refine gate_callee (f := 47) rfl ?_); refine goesL_ (some 68) rfl rfl Tryd.func47 (by kernel_rfl) rfl #[.int .i64 (Int.tmod (wrap64 (Int.tdiv (wrap64 (Int.tmod a0 86400)) 60)) 60)] rfl (by (try simp only [List.map_toArray, List.map_cons, List.map_nil]); first | done | rfl | (simp only [List.length_drop, List.length_take]; rfl)) ?_; (with_reducible refine (gleberef1_two.calls kj8 (Int.tmod (wrap64 (Int.tdiv (wrap64 (Int.tmod a0 86400)) 60)) 60) t210 _ A25.out).mono ?_); rintro e w35 ⟨rfl, hb⟩; refine ⟨_, rfl, ?_⟩; have n0_ := Aside0.mk (below_step (by repeat (first | (with_reducible first | exact HB.out | apply below_alloc | apply pw_below_drewN | apply below_drew1) | exact HB.out)) hb); clear HB; have HB := n0_; clear n0_; (try clear hb); (try clear hb2); (try clear hk); (try clear hi)) | ((with_reducible refine gate_callee (f := 47) rfl ?_); refine goesL_ (some 73) rfl rfl Tryd.func47 (by kernel_rfl) rfl #[.int .i64 (Int.tmod (wrap64 (Int.tmod a0 86400)) 60)] rfl (by (try simp only [List.map_toArray, List.map_cons, List.map_nil]); first | done | rfl | (simp only [List.length_drop, List.length_take]; rfl)) ?_; (with_reducible refine (gleberef1_two.calls kj8 (Int.tmod (wrap64 (Int.tmod a0 86400)) 60) t211 _ A28.out).mono ?_); rintro e w36 ⟨rfl, hb⟩; refine ⟨_, rfl, ?_⟩; have n0_ := Aside0.mk (below_step (by repeat (first | (with_reducible first | exact HB.out | apply below_alloc | apply pw_below_drewN | apply below_drew1) | exact HB.out)) hb); clear HB; have HB := n0_; clear n0_; (try clear hb); (try clear hb2); (try clear hk); (try clear hi)))
                            go_ret3
                            exact ⟨by first | rfl | (simp [errW_none, errW_some] <;> rfl) | (simp [*, errW_none, errW_some] <;> rfl), by repeat (first | (with_reducible first | exact HB.out | apply below_alloc | apply pw_below_drewN | apply below_drew1) | exact HB.out)⟩
                          · rw [if_neg c29] at H
                            exact absurd H (by simp)
                        · rw [if_neg c27] at H
                          exact absurd H (by simp)
                      · rw [if_neg c26] at H
                        exact absurd H (by simp)
                    · rw [if_neg c24] at H
                      exact absurd H (by simp)
                  · rw [if_neg c22] at H
                    exact absurd H (by simp)
                · rw [if_neg c20] at H
                  exact absurd H (by simp)
              · rw [if_neg c19] at H
                exact absurd H (by simp)
            · rw [if_neg c17] at H
              exact absurd H (by simp)

/-! ### gleberef1_Week: function 22 -/
def gleberef1_Week.f (a0 : Int) : Option (Int) := some (wrap64 (Int.tmod (IntKind.u64.wrap ((IntKind.u64.wrap (Int.tdiv a0 86400)) + 4)) 7))
set_option maxHeartbeats 8000000 in
set_option maxRecDepth 100000 in
theorem gleberef1_Week.calls (a0 : Int) (r : Int) (w : World) (h : gleberef1_Week.f a0 = some r) :
    Calls Tryd.prog 22 #[.int .u64 a0] w fun e w' => e = .returned (.int .i64 r) ∧ Drawn0 w w' := by
  have H : (some (wrap64 (Int.tmod (IntKind.u64.wrap ((IntKind.u64.wrap (Int.tdiv a0 86400)) + 4)) 7))) = some r := h
  clear h
  obtain rfl := Option.some.inj H
  go_enter Tryd.func22, Tryd.ntmps22
  go_wp2
  go_ret
  exact ⟨by first | rfl | (simp only [i64_w]; done) | (simp; done) | (simp [*]; done), by repeat (first | exact Drawn0.refl _ | apply Drawn0.step)⟩

end Go.Proofs.YtcgchblljhbdaaaDoor.Z
