-- Printed by this session's own program (wip/xprint) out of the translation. Lean checks it.
import Derived.Test.YtcgchblljhbdaaaDoorCx0
import Derived.Test.YtcgchblljhbdaaaDoorCx3
import Derived.Test.YtcgchblljhbdaaaDoorCx4
namespace Go.Proofs.YtcgchblljhbdaaaDoor.C
open Go.Proofs.YtcgchblljhbdaaaDoor
open Go.RowKit Go.Proofs.YtcgchblljhbdaaaDoorW.PrintWords Go.Proofs.YtcgchblljhbdaaaDoorW.PrintLast Go.Proofs.YtcgchblljhbdaaaDoorW.PrintMore
attribute [local go_sem] max2_int min2_int max_two min_two max_three min_three max_four min_four   -- for this text's walks alone
set_option linter.unusedVariables false
set_option linter.unusedSimpArgs false

/-! ### csvr_end: function 73 -/
def csvr_end.f (l0 : List Int) (a1 : Int) : Option (Int × Bool) := if a1 = (l0.length : Int) then (some (a1, true)) else (if 0 ≤ a1 then (if a1 < (l0.length : Int) then (if (rd l0 a1) = 10 then (some (wrap64 (a1 + 1), true)) else (if (rd l0 a1) = 13 then (if (wrap64 (a1 + 1)) < (l0.length : Int) then (if 0 ≤ (wrap64 (a1 + 1)) then (if (rd l0 (wrap64 (a1 + 1))) = 10 then (some (wrap64 (a1 + 2), true)) else (some (wrap64 (a1 + 1), false))) else (none)) else (some (wrap64 (a1 + 1), false))) else (some (a1, false)))) else (none)) else (none))
set_option maxHeartbeats 8000000 in
set_option maxRecDepth 100000 in
theorem csvr_end.calls (A0 : Option Addr) (c0 : Nat) (l0 : List Int) (a1 : Int) (r1 : Int) (r2 : Bool) (w : World) (hr0 : Kd.C (Kd.int .u8) w A0 l0.length l0) (hc0 : l0.length ≤ c0) (h : csvr_end.f l0 a1 = some (r1, r2)) :
  Calls Tryd.prog 73 #[.slice A0 l0.length c0, .int .i64 a1] w fun e w' => e = .returned (.tuple #[.int .i64 r1, .bool r2]) ∧ Drawn0 w w' := by
 have HR0 := Aside0.mk hr0
 have HC0 := Aside0.mk hc0
 clear hr0 hc0
 have H : (if a1 = (l0.length : Int) then (some (a1, true)) else (if 0 ≤ a1 then (if a1 < (l0.length : Int) then (if (rd l0 a1) = 10 then (some (wrap64 (a1 + 1), true)) else (if (rd l0 a1) = 13 then (if (wrap64 (a1 + 1)) < (l0.length : Int) then (if 0 ≤ (wrap64 (a1 + 1)) then (if (rd l0 (wrap64 (a1 + 1))) = 10 then (some (wrap64 (a1 + 2), true)) else (some (wrap64 (a1 + 1), false))) else (none)) else (some (wrap64 (a1 + 1), false))) else (some (a1, false)))) else (none)) else (none))) = some (r1, r2) := h
 clear h
 by_cases c3 : a1 = (l0.length : Int)
 ·rw [if_pos c3] at H
  have c3b0 := qT c3
  have c3b1 := nF c3
  clear c3
  simp only [Option.some.injEq, Prod.mk.injEq] at H
  obtain ⟨rfl, rfl⟩ := H
  go_enter Tryd.func73, Tryd.ntmps73
  go_wp2
  go_ret2
  exact ⟨by first | rfl | (simp only [i64_w]; done) | (simp; done) | (simp [*]; done), by repeat (first | exact Drawn0.refl _ | apply Drawn0.step)⟩
 ·rw [if_neg c3] at H
  have c3b0 : (a1 == (l0.length : Int)) = false := beq_eq_false_iff_ne.mpr c3
  have c3b1 : (a1 != (l0.length : Int)) = true := bne_iff_ne.mpr c3
  obtain ⟨c4, H⟩ := eT H
  have c4b0 := decide_eq_true c4
  clear c4
  obtain ⟨c5, H⟩ := eT H
  have c5b0 := decide_eq_true c5
  clear c5
  by_cases c6 : (rd l0 a1) = 10
  ·rw [if_pos c6] at H
   have c6b0 := qT c6
   have c6b1 := nF c6
   clear c6
   simp only [Option.some.injEq, Prod.mk.injEq] at H
   obtain ⟨rfl, rfl⟩ := H
   have p144 : 0 ≤ (a1 : Int) := oD
   have q144 : a1 < (l0.length : Int) := oD
   obtain ⟨ad144, e144, hx144_0⟩ := Kd.at_int HR0.out a1 p144 q144
   cases e144
   replace p144 := eq_true p144
   replace q144 := eq_true q144
   go_enter Tryd.func73, Tryd.ntmps73
   go_wp2
   go_ret2
   exact ⟨by first | rfl | (simp only [i64_w]; done) | (simp; done) | (simp [*]; done), by repeat (first | exact Drawn0.refl _ | apply Drawn0.step)⟩
  ·rw [if_neg c6] at H
   have c6b0 : ((rd l0 a1) == 10) = false := beq_eq_false_iff_ne.mpr c6
   have c6b1 : ((rd l0 a1) != 10) = true := bne_iff_ne.mpr c6
   by_cases c7 : (rd l0 a1) = 13
   ·rw [if_pos c7] at H
    have c7b0 := qT c7
    have c7b1 := nF c7
    clear c7
    by_cases c8 : (wrap64 (a1 + 1)) < (l0.length : Int)
    ·rw [if_pos c8] at H
     have c8b0 := decide_eq_true c8
     clear c8
     obtain ⟨ji9, hji9⟩ : ∃ j_ : Int, (wrap64 (a1 + 1)) = j_ := ⟨_, rfl⟩
     replace H : (if 0 ≤ (ji9) then (if (rd l0 (ji9)) = 10 then (some (wrap64 (a1 + 2), true)) else (some (ji9, false))) else (none)) = some (r1, r2) := by first | (rw [hji9] at H; exact H) | (simp only [hji9] at H ⊢; exact H)
     (try rw [hji9] at c8b0)
     have hji9w : (IntKind.i64.wrap (a1 + 1)) = ji9 := (i64_w _).trans hji9
     obtain ⟨c10, H⟩ := eT H
     have c10b0 := decide_eq_true c10
     clear c10
     by_cases c11 : (rd l0 (ji9)) = 10
     ·rw [if_pos c11] at H
      have c11b0 := qT c11
      have c11b1 := nF c11
      clear c11
      simp only [Option.some.injEq, Prod.mk.injEq] at H
      obtain ⟨rfl, rfl⟩ := H
      have p144 : 0 ≤ (a1 : Int) := oD
      have q144 : a1 < (l0.length : Int) := oD
      obtain ⟨ad144, e144, hx144_0⟩ := Kd.at_int HR0.out a1 p144 q144
      cases e144
      replace p144 := eq_true p144
      replace q144 := eq_true q144
      have p145 : 0 ≤ (a1 : Int) := oD
      have q145 : a1 < (l0.length : Int) := oD
      obtain ⟨ad145, e145, hx145_0⟩ := Kd.at_int HR0.out a1 p145 q145
      obtain rfl : ad144 = ad145 := (by injection e145)
      replace p145 := eq_true p145
      replace q145 := eq_true q145
      have p146 : 0 ≤ ((ji9) : Int) := oD
      have q146 : (ji9) < (l0.length : Int) := oD
      obtain ⟨ad146, e146, hx146_0⟩ := Kd.at_int HR0.out (ji9) p146 q146
      obtain rfl : ad144 = ad146 := (by injection e146)
      replace p146 := eq_true p146
      replace q146 := eq_true q146
      go_enter Tryd.func73, Tryd.ntmps73
      go_wp2
      go_ret2
      exact ⟨by first | rfl | (simp; done) | (simp only [← hji9] <;> (first | rfl | simp)) | (simp [*]; done), by repeat (first | exact Drawn0.refl _ | apply Drawn0.step)⟩
     ·rw [if_neg c11] at H
      have c11b0 : ((rd l0 (ji9)) == 10) = false := beq_eq_false_iff_ne.mpr c11
      have c11b1 : ((rd l0 (ji9)) != 10) = true := bne_iff_ne.mpr c11
      simp only [Option.some.injEq, Prod.mk.injEq] at H
      obtain ⟨rfl, rfl⟩ := H
      have p144 : 0 ≤ (a1 : Int) := oD
      have q144 : a1 < (l0.length : Int) := oD
      obtain ⟨ad144, e144, hx144_0⟩ := Kd.at_int HR0.out a1 p144 q144
      cases e144
      replace p144 := eq_true p144
      replace q144 := eq_true q144
      have p145 : 0 ≤ (a1 : Int) := oD
      have q145 : a1 < (l0.length : Int) := oD
      obtain ⟨ad145, e145, hx145_0⟩ := Kd.at_int HR0.out a1 p145 q145
      obtain rfl : ad144 = ad145 := (by injection e145)
      replace p145 := eq_true p145
      replace q145 := eq_true q145
      have p146 : 0 ≤ ((ji9) : Int) := oD
      have q146 : (ji9) < (l0.length : Int) := oD
      obtain ⟨ad146, e146, hx146_0⟩ := Kd.at_int HR0.out (ji9) p146 q146
      obtain rfl : ad144 = ad146 := (by injection e146)
      replace p146 := eq_true p146
      replace q146 := eq_true q146
      go_enter Tryd.func73, Tryd.ntmps73
      go_wp2
      go_ret2
      exact ⟨by first | rfl | (simp; done) | (simp only [← hji9] <;> (first | rfl | simp)) | (simp [*]; done), by repeat (first | exact Drawn0.refl _ | apply Drawn0.step)⟩
    ·rw [if_neg c8] at H
     have c8b0 := decide_eq_false c8
     clear c8
     simp only [Option.some.injEq, Prod.mk.injEq] at H
     obtain ⟨rfl, rfl⟩ := H
     have p144 : 0 ≤ (a1 : Int) := oD
     have q144 : a1 < (l0.length : Int) := oD
     obtain ⟨ad144, e144, hx144_0⟩ := Kd.at_int HR0.out a1 p144 q144
     cases e144
     replace p144 := eq_true p144
     replace q144 := eq_true q144
     have p145 : 0 ≤ (a1 : Int) := oD
     have q145 : a1 < (l0.length : Int) := oD
     obtain ⟨ad145, e145, hx145_0⟩ := Kd.at_int HR0.out a1 p145 q145
     obtain rfl : ad144 = ad145 := (by injection e145)
     replace p145 := eq_true p145
     replace q145 := eq_true q145
     go_enter Tryd.func73, Tryd.ntmps73
     go_wp2
     go_ret2
     exact ⟨by first | rfl | (simp only [i64_w]; done) | (simp; done) | (simp [*]; done), by repeat (first | exact Drawn0.refl _ | apply Drawn0.step)⟩
   ·rw [if_neg c7] at H
    have c7b0 : ((rd l0 a1) == 13) = false := beq_eq_false_iff_ne.mpr c7
    have c7b1 : ((rd l0 a1) != 13) = true := bne_iff_ne.mpr c7
    simp only [Option.some.injEq, Prod.mk.injEq] at H
    obtain ⟨rfl, rfl⟩ := H
    have p144 : 0 ≤ (a1 : Int) := oD
    have q144 : a1 < (l0.length : Int) := oD
    obtain ⟨ad144, e144, hx144_0⟩ := Kd.at_int HR0.out a1 p144 q144
    cases e144
    replace p144 := eq_true p144
    replace q144 := eq_true q144
    have p145 : 0 ≤ (a1 : Int) := oD
    have q145 : a1 < (l0.length : Int) := oD
    obtain ⟨ad145, e145, hx145_0⟩ := Kd.at_int HR0.out a1 p145 q145
    obtain rfl : ad144 = ad145 := (by injection e145)
    replace p145 := eq_true p145
    replace q145 := eq_true q145
    go_enter Tryd.func73, Tryd.ntmps73
    go_wp2
    go_ret2
    exact ⟨by first | rfl | (simp only [i64_w]; done) | (simp; done) | (simp [*]; done), by repeat (first | exact Drawn0.refl _ | apply Drawn0.step)⟩

/-! ### csvr_record: function 57 -/
mutual
def csvr_record.l0 : Nat → List Int → Int → List (S59) → Option ((List (S59)) × Int × Int × Int)
 | 0, _, _, _ => none
 | k + 1, x0, x1, x7 => (csvr_field.f k x0 x1).bind fun bt148 => (if bt148.2.2.2.2.1 = 0 then (if x7.length < 4398046511104 then ((some (x7 ++ [(⟨bt148.1, bt148.2.1, bt148.2.2.1⟩ : S59)] : List (S59))).bind fun y156 => (if bt148.2.2.2.1 < (x0.length : Int) then (if 0 ≤ bt148.2.2.2.1 then (csvr_record.j1 k x0 y156 bt148.2.2.2.1 ((rd x0 bt148.2.2.2.1) == 44)) else (none)) else (csvr_record.j1 k x0 y156 bt148.2.2.2.1 false))) else (none)) else (some (([] : List (S59)), 0, bt148.2.2.2.2.1, bt148.2.2.2.2.2)))
def csvr_record.j1 : Nat → List Int → List (S59) → Int → Bool → Option ((List (S59)) × Int × Int × Int)
 | 0, _, _, _, _ => none
 | k + 1, x0, x7, x9, x37 => if x37 = true then (csvr_record.l0 k x0 (wrap64 (x9 + 1)) x7) else ((csvr_end.f x0 x9).bind fun bt160 => (if bt160.2 = true then (some (x7, bt160.1, 0, 0)) else (some (([] : List (S59)), 0, 1, bt160.1))))
end
def csvr_record.f (k : Nat) (l0 : List Int) (a1 : Int) : Option ((List (S59)) × Int × Int × Int) := csvr_record.l0 k l0 a1 ([] : List (S59))
theorem csvr_record.mono_l : ∀ k, (∀ y0 y1 y2, LeO (csvr_record.l0 k y0 y1 y2) (csvr_record.l0 (k + 1) y0 y1 y2)) ∧ (∀ y0 y1 y2 y3, LeO (csvr_record.j1 k y0 y1 y2 y3) (csvr_record.j1 (k + 1) y0 y1 y2 y3))
 | 0 => ⟨fun _ _ _ r h => by simp [csvr_record.l0] at h, fun _ _ _ _ r h => by simp [csvr_record.j1] at h⟩
 | k + 1 => by
  obtain ⟨ih0, ih1⟩ := csvr_record.mono_l k
  refine ⟨?_, ?_⟩
  ·intro y0 y1 y2
   unfold csvr_record.l0
   repeat' first
   | (with_reducible first | exact ih0 _ _ _ | exact ih1 _ _ _ _ | exact csvr_field.mono _ _ _ | exact LeO.refl _ | exact LeO.none _ | refine LeO.ite ?_ ?_ | refine LeO.bind ?_ (fun _ => ?_))
   | exact ih0 _ _ _
   | exact ih1 _ _ _ _
   | exact csvr_field.mono _ _ _
   | exact LeO.none _
   | refine LeO.ite ?_ ?_
   | refine LeO.bind ?_ (fun _ => ?_)
  ·intro y0 y1 y2 y3
   unfold csvr_record.j1
   repeat' first
   | (with_reducible first | exact ih0 _ _ _ | exact ih1 _ _ _ _ | exact csvr_field.mono _ _ _ | exact LeO.refl _ | exact LeO.none _ | refine LeO.ite ?_ ?_ | refine LeO.bind ?_ (fun _ => ?_))
   | exact ih0 _ _ _
   | exact ih1 _ _ _ _
   | exact csvr_field.mono _ _ _
   | exact LeO.none _
   | refine LeO.ite ?_ ?_
   | refine LeO.bind ?_ (fun _ => ?_)
theorem csvr_record.mono : ∀ a0 a1 k, LeO (csvr_record.f k a0 a1) (csvr_record.f (k + 1) a0 a1) := by
 intro a0 a1 k
 obtain ⟨ih0, ih1⟩ := csvr_record.mono_l k
 unfold csvr_record.f
 repeat' first
   | (with_reducible first | exact ih0 _ _ _ | exact ih1 _ _ _ _ | exact csvr_field.mono _ _ _ | exact LeO.refl _ | exact LeO.none _ | refine LeO.ite ?_ ?_ | refine LeO.bind ?_ (fun _ => ?_))
   | exact ih0 _ _ _
   | exact ih1 _ _ _ _
   | exact csvr_field.mono _ _ _
   | exact LeO.none _
   | refine LeO.ite ?_ ?_
   | refine LeO.bind ?_ (fun _ => ?_)
set_option maxHeartbeats 8000000 in
set_option maxRecDepth 100000 in
theorem csvr_record.calls (k : Nat) (A0 : Option Addr) (c0 : Nat) (l0 : List Int) (a1 : Int) (r1 : List (S59)) (r2 : Int) (r3 : Int) (r4 : Int) (w : World) (hr0 : Kd.C (Kd.int .u8) w A0 l0.length l0) (hc0 : l0.length ≤ c0) (h : csvr_record.f k l0 a1 = some (r1, r2, r3, r4)) :
  Calls Tryd.prog 57 #[.slice A0 l0.length c0, .int .i64 a1] w fun e w' => ∃ v0_ : Value, e = .returned (.tuple #[v0_, .int .i64 r2, .agg #[.int .i64 r3, .int .i64 r4]]) ∧ Kd.R k59 59 w' w.heap.size (fun _ => True) v0_ r1 ∧ Below w.heap.size w w' := by
 have hu54 := Tryd.underlying54
 have hu59 := Tryd.underlying59
 have HR0 := Aside0.mk hr0
 have HC0 := Aside0.mk hc0
 clear hr0 hc0
 have HB := Aside0.mk (Below.refl w.heap.size w)
 have H : (csvr_record.l0 k l0 a1 ([] : List (S59))) = some (r1, r2, r3, r4) := h
 clear h
 have H' := Aside0.mk H
 clear H
 go_enter Tryd.func57, Tryd.ntmps57
 go_wp2_with (first | ((with_reducible refine gate_dst (N := 6) rfl ?_); refine bE (N := 6) (cs := #[.int .i64 0, .int .i64 0]) (t := 54) (h := ?_); intro gb147 hg w3 hbox hb; have BK147 := Aside0.mk (hbox); have GW147 := Aside0.mk (gE hg (fW HB.out)); have GE147 := GW147; replace HB := Aside0.mk (below_step (fW HB.out) hb); clear hb hbox hg))
 go_loopg [1, 7] k (fun kq v1 v7 w' => ∃ (x1_1 : Int) (x7_1 : List (S59)) (x148000_1 : Int) (x148001_1 : Int), v1 = .int .i64 x1_1 ∧ Aside0 (csvr_record.l0 kq l0 x1_1 x7_1 = some (r1, r2, r3, r4)) ∧ Aside0 (kq ≤ k) ∧ Aside0 (Kd.R k59 59 w' w.heap.size (fun _ => True) v7 x7_1) ∧ Aside0 (w'.heap[gb147]? = some (.cells #[.int .i64 x148000_1, .int .i64 x148001_1] 54 (0, 0))) ∧ Aside0 (Below w.heap.size w w'))
 case atStart => exact ⟨(a1), (([] : List (S59))), (0), (0), oR, H', ⟨Nat.le_refl _⟩, ⟨by first | exact Kd.R_nil _ _ _ _ _ | exact Kd.N_nil _ _ _ _ _ | exact Kd.V_nil _ _ _ _ _ | exact Kd.Q_nil _ _ _ _ _ | exact Kd.S_nil _ _ _ _ _⟩, ⟨fB BK147.out⟩, ⟨fW HB.out⟩⟩
 case round =>
  clear H'
  obtain ⟨x1_1, x7_1, x148000_1, x148001_1, rfl, HA, HK1, HO_7, BK147, HB⟩ := hrel
  cases gk with
  | zero => exact absurd HA.out (by simp [csvr_record.l0])
  | succ k1 =>
   have H := HA.out
   clear HA
   simp only [csvr_record.l0] at H
   obtain ⟨⟨t148, t149, t150, t151, t152, t153⟩, A40, H⟩ := bS H
   dsimp only at H
   have A4 := Aside0.mk A40
   clear A40
   by_cases c5 : t152 = 0
   ·rw [if_pos c5] at H
    have c5b0 := qT c5
    have c5b1 := nF c5
    clear c5
    obtain ⟨c6, H⟩ := eT H
    have LMc6 := Aside0.mk c6
    clear c6
    obtain ⟨y156, hy156⟩ : ∃ y_ : List (S59), y_ = (x7_1 ++ [(⟨t148, t149, t150⟩ : S59)]) := ⟨_, rfl⟩
    replace H : (if t151 < (l0.length : Int) then (if 0 ≤ t151 then (csvr_record.j1 k1 l0 y156 t151 ((rd l0 t151) == 44)) else (none)) else (csvr_record.j1 k1 l0 y156 t151 false)) = some (r1, r2, r3, r4) := by first | (rw [hy156]; with_reducible exact H) | (have H2_ := (Option.bind_some _ _).symm.trans H; rw [hy156]; with_reducible exact H2_) | (have H2_ := (Option.bind_some _ _).symm.trans H; with_reducible exact H2_) | with_reducible exact H | (rw [hy156]; exact H) | exact H
    have Ny156 := Aside0.mk hy156
    clear hy156
    have HC7 := Aside0.mk H
    clear H
    go_upto_region 6 with (first | ((with_reducible refine gate_callee (f := 72) rfl ?_); refine goesL_ (some 15) rfl rfl Tryd.func72 (by kernel_rfl) rfl #[.slice A0 l0.length c0, .int .i64 x1_1] rfl oA ?_; (with_reducible refine (csvr_field.calls k1 _ _ l0 x1_1 t148 t149 t150 t151 t152 t153 _ ?side1 ?side2 A4.out).mono ?_); (case side1 => exact fC (Kd.C_below HR0.out HB.out)); (case side2 => exact HC0.out); rintro e w8 ⟨rfl, hb⟩; refine ⟨_, rfl, ?_⟩; replace HO_7 := Aside0.mk (Kd.R_below (fR HO_7.out) hb); replace BK147 := Aside0.mk (blk_below (fB BK147.out) hb); replace HB := Aside0.mk (below_step (fW HB.out) hb); (try clear hb); (try clear hb2); (try clear hk); (try clear hi)) | ((with_reducible refine gate_dst (N := 8) rfl ?_); refine bE (N := 8) (cs := #[.int .i64 0, .string (⟨#[]⟩ : ByteArray), .int .i64 0]) (t := 59) (h := ?_); intro gb154 hg w9 hbox hb; replace HO_7 := Aside0.mk (Kd.R_below (Kd.R_elderB (fR HO_7.out) gb154 (Nat.le_of_eq hg.symm)) hb); have BK154 := Aside0.mk (hbox); have GW154 := Aside0.mk (gE hg (fW HB.out)); have GE154 := GW154; replace HB := Aside0.mk (below_step (fW HB.out) hb); have NB147_154 := Aside0.mk ((by rw [hg]; exact Nat.ne_of_lt (blk_lt (g := gb147) (o := .cells #[.int .i64 x148000_1, .int .i64 x148001_1] 54 (0, 0)) (fB BK147.out)) : gb147 ≠ gb154)); have NB154_147 := Aside0.mk ((by rw [hg]; exact Nat.ne_of_gt (blk_lt (g := gb147) (o := .cells #[.int .i64 x148000_1, .int .i64 x148001_1] 54 (0, 0)) (fB BK147.out)) : gb154 ≠ gb147)); replace BK147 := Aside0.mk (blk_below (fB BK147.out) hb); clear hb hbox hg) | ((with_reducible refine gate_dst (N := 10) rfl ?_); refine bE (N := 10) (cs := #[.int .i64 0, .int .i64 0]) (t := 54) (h := ?_); intro gb155 hg w10 hbox hb; replace HO_7 := Aside0.mk (Kd.R_below (fR HO_7.out) hb); have BK155 := Aside0.mk (hbox); have GW155 := Aside0.mk (gE hg (fW HB.out)); have GE155 := GW155; replace HB := Aside0.mk (below_step (fW HB.out) hb); have NB147_155 := Aside0.mk ((by rw [hg]; exact Nat.ne_of_lt (blk_lt (g := gb147) (o := .cells #[.int .i64 x148000_1, .int .i64 x148001_1] 54 (0, 0)) (fB BK147.out)) : gb147 ≠ gb155)); have NB155_147 := Aside0.mk ((by rw [hg]; exact Nat.ne_of_gt (blk_lt (g := gb147) (o := .cells #[.int .i64 x148000_1, .int .i64 x148001_1] 54 (0, 0)) (fB BK147.out)) : gb155 ≠ gb147)); replace BK147 := Aside0.mk (blk_below (fB BK147.out) hb); have NB154_155 := Aside0.mk ((by rw [hg]; exact Nat.ne_of_lt (blk_lt (g := gb154) (o := .cells #[.int .i64 0, .string (⟨#[]⟩ : ByteArray), .int .i64 0] 59 (0, 0)) (fB BK154.out)) : gb154 ≠ gb155)); have NB155_154 := Aside0.mk ((by rw [hg]; exact Nat.ne_of_gt (blk_lt (g := gb154) (o := .cells #[.int .i64 0, .string (⟨#[]⟩ : ByteArray), .int .i64 0] 59 (0, 0)) (fB BK154.out)) : gb155 ≠ gb154)); replace BK154 := Aside0.mk (blk_below (fB BK154.out) hb); clear hb hbox hg; have hnb11 := NB154_147.out; have hnc11 := NB147_154.out; have hnb12 := NB154_155.out; have hnc12 := NB155_154.out; have hcz13_0 : w10.cell? ⟨gb154, 0, none⟩ = some (.int .i64 0) := (blk_cell BK154.out 0).trans rfl; have hcz13_1 : w10.cell? ⟨gb154, 1, none⟩ = some (.string (⟨#[]⟩ : ByteArray)) := (blk_cell BK154.out 1).trans rfl; have hcz13_2 : w10.cell? ⟨gb154, 2, none⟩ = some (.int .i64 0) := (blk_cell BK154.out 2).trans rfl; have hfz13_0 := blk_frozen BK154.out 0; have hfz13_1 := blk_frozen BK154.out 1; have hfz13_2 := blk_frozen BK154.out 2; have hnb14 := NB155_147.out; have hnc14 := NB147_155.out; have hcz15_0 : w10.cell? ⟨gb155, 0, none⟩ = some (.int .i64 0) := (blk_cell BK155.out 0).trans rfl; have hcz15_1 : w10.cell? ⟨gb155, 1, none⟩ = some (.int .i64 0) := (blk_cell BK155.out 1).trans rfl; have hfz15_0 := blk_frozen BK155.out 0; have hfz15_1 := blk_frozen BK155.out 1) | ((with_reducible refine gate_builtin (b := .append) (xs := #[.tmp 23, .tmp 25]) rfl ?_); at_builtin; refine Kd.R_append k59 (w0 := w) w.heap.size rfl (.tmp 23) (.tmp 25) 57 59 (.agg #[(.int .i64 0), (.string ⟨#[]⟩), (.int .i64 0)]) 32 rfl Tryd.underlying57 info59 rfl (by decide) (by omega) u7 x7_1 (⟨t148, t149, t150⟩ : S59) [.int .i64 t148, .string t149, .int .i64 t150] (fun k_ => k_ ≠ gb154) (fun _ => False) rfl (by first | (go_simp; done) | (go_simp; rfl)) ?aP (fun _ hk => hk.elim) ?aF ?aO ?aB ?aS ?aL ?_; (case aP => exact k59_mkM _ _ _ (⟨t148, t149, t150⟩ : S59)); (case aB => exact (fW HB.out)); (case aF => exact (fun k_ hk => Kd.freshB (g := gb154) (o := .cells #[.int .i64 t148, .string t149, .int .i64 t150] 59 (0, 0)) (by refine fB (h := ?_); refine blk_far ?_ NB154_155.out _; refine fB (h := ?_); refine blk_far ?_ NB154_155.out _; refine fB (h := ?_); refine blk_put (cs := #[.int .i64 t148, .string t149, .int .i64 0]) ?_ 2 _ rfl; refine fB (h := ?_); refine blk_put (cs := #[.int .i64 t148, .string (⟨#[]⟩ : ByteArray), .int .i64 0]) ?_ 1 _ rfl; refine fB (h := ?_); refine blk_put (cs := #[.int .i64 0, .string (⟨#[]⟩ : ByteArray), .int .i64 0]) ?_ 0 _ rfl; refine fB (h := ?_); exact BK154.out) k_ hk)); (case aO => exact (by refine fR (h := ?_); exact Kd.R_mono (Kd.R_far (p := ⟨gb155, 1, none⟩) (Kd.R_far (p := ⟨gb155, 0, none⟩) (Kd.R_far (p := ⟨gb154, 2, none⟩) (Kd.R_far (p := ⟨gb154, 1, none⟩) (Kd.R_far (p := ⟨gb154, 0, none⟩) (Kd.R_types (Kd.R_mono HO_7.out (fun k_ hk => (⟨hk, hk.2⟩ : _ ∧ k_ ≠ gb154))) BK155.out (by decide)) (fun _ hk => hk.1.2) (.int .i64 t148)) (fun _ hk => hk.1.2) (.string t149)) (fun _ hk => hk.1.2) (.int .i64 t150)) (fun _ hk => hk.2) (.int .i64 t152)) (fun _ hk => hk.2) (.int .i64 t153)) (fun _ hk => hk.1.1.2))); (case aS => exact (below_size (fW HB.out))); (case aL => have := LMc6.out; omega); intro v157 w16 ho hb hg hat; rw [← Ny156.out] at ho; replace BK147 := Aside0.mk (blk_grown (g := gb147) (o := .cells #[.int .i64 x148000_1, .int .i64 x148001_1] 54 (0, 0)) (by refine fB (h := ?_); refine blk_far ?_ NB147_155.out _; refine fB (h := ?_); refine blk_far ?_ NB147_155.out _; refine fB (h := ?_); refine blk_far ?_ NB147_154.out _; refine fB (h := ?_); refine blk_far ?_ NB147_154.out _; refine fB (h := ?_); refine blk_far ?_ NB147_154.out _; refine fB (h := ?_); exact BK147.out) hg (Kd.R_ne HO_7.out BK147.out (by decide))); replace BK154 := Aside0.mk (blk_grown (g := gb154) (o := .cells #[.int .i64 t148, .string t149, .int .i64 t150] 59 (0, 0)) (by refine fB (h := ?_); refine blk_far ?_ NB154_155.out _; refine fB (h := ?_); refine blk_far ?_ NB154_155.out _; refine fB (h := ?_); refine blk_put (cs := #[.int .i64 t148, .string t149, .int .i64 0]) ?_ 2 _ rfl; refine fB (h := ?_); refine blk_put (cs := #[.int .i64 t148, .string (⟨#[]⟩ : ByteArray), .int .i64 0]) ?_ 1 _ rfl; refine fB (h := ?_); refine blk_put (cs := #[.int .i64 0, .string (⟨#[]⟩ : ByteArray), .int .i64 0]) ?_ 0 _ rfl; refine fB (h := ?_); exact BK154.out) hg (Kd.R_away HO_7.out (fun _ hk => hk.2))); replace BK155 := Aside0.mk (blk_grown (g := gb155) (o := .cells #[.int .i64 t152, .int .i64 t153] 54 (0, 0)) (by refine fB (h := ?_); refine blk_put (cs := #[.int .i64 t152, .int .i64 0]) ?_ 1 _ rfl; refine fB (h := ?_); refine blk_put (cs := #[.int .i64 0, .int .i64 0]) ?_ 0 _ rfl; refine fB (h := ?_); refine blk_far ?_ NB155_154.out _; refine fB (h := ?_); refine blk_far ?_ NB155_154.out _; refine fB (h := ?_); refine blk_far ?_ NB155_154.out _; refine fB (h := ?_); exact BK155.out) hg (Kd.R_ne HO_7.out BK155.out (by decide))); replace HB := Aside0.mk (hb); have HO158 := Aside0.mk (ho); clear HO_7; clear ho hb hg hat))
    (try simp only [Act.put, List.setIfInBounds_toArray, List.set_cons_zero, List.set_cons_succ])
    go_cut [37] (fun v37 wc => ∃ (kq : Nat) (x37_6 : Bool), v37 = .bool x37_6 ∧ Aside0 (csvr_record.j1 kq l0 y156 t151 x37_6 = some (r1, r2, r3, r4)) ∧ Aside0 (kq ≤ k1) ∧ Aside0 (Kd.R k59 59 wc w.heap.size (fun k_ => k_ ≠ gb154) v157 y156) ∧ Aside0 (wc.heap[gb147]? = some (.cells #[.int .i64 x148000_1, .int .i64 x148001_1] 54 (0, 0))) ∧ Aside0 (wc.heap[gb154]? = some (.cells #[.int .i64 t148, .string t149, .int .i64 t150] 59 (0, 0))) ∧ Aside0 (wc.heap[gb155]? = some (.cells #[.int .i64 t152, .int .i64 t153] 54 (0, 0))) ∧ Aside0 (Below w.heap.size w wc))
    case first =>
     have H := HC7.out
     clear HC7
     by_cases c17 : t151 < (l0.length : Int)
     ·rw [if_pos c17] at H
      have c17b0 := decide_eq_true c17
      clear c17
      (first | rw [c17b0] | (simp only [i64_w, i32_w]; rw [c17b0]) | skip)
      obtain ⟨c18, H⟩ := eT H
      have c18b0 := decide_eq_true c18
      clear c18
      have H' := Aside0.mk H
      clear H
      obtain ⟨ad159, rfl, hx159_0, p159, q159⟩ := aI HB HR0 (t151)
      go_wp2
      go_meet
      case rel => exact ⟨_, (((rd l0 t151) == 44)), oR, H', ⟨by have := HK1.out; first | omega | exact Nat.le_refl _⟩, ⟨fR HO158.out⟩, ⟨fB BK147.out⟩, ⟨fB BK154.out⟩, ⟨fB BK155.out⟩, ⟨fW HB.out⟩⟩
     ·rw [if_neg c17] at H
      have c17b0 := decide_eq_false c17
      clear c17
      (first | rw [c17b0] | (simp only [i64_w, i32_w]; rw [c17b0]) | skip)
      have H' := Aside0.mk H
      clear H
      go_wp2
      go_meet
      case rel => exact ⟨_, (false), oR, H', ⟨by have := HK1.out; first | omega | exact Nat.le_refl _⟩, ⟨fR HO158.out⟩, ⟨fB BK147.out⟩, ⟨fB BK154.out⟩, ⟨fB BK155.out⟩, ⟨fW HB.out⟩⟩
    case rest =>
     clear HC7
     try clear c5; try clear c5b0; try clear c5b1; try clear c6; try clear c17; try clear c17b0; try clear c18; try clear c18b0; try clear hcz13_0; try clear hcz13_1; try clear hcz13_2; try clear hcz15_0; try clear hcz15_1; try clear hfz13_0; try clear hfz13_1; try clear hfz13_2; try clear hfz15_0; try clear hfz15_1; try clear hx159_0; try clear p159; try clear q159
     obtain ⟨kq, x37_6, rfl, HA, HJ6, HO_7, BK147, BK154, BK155, HB⟩ := hcut
     cases kq with
     | zero => exact absurd HA.out (by simp [csvr_record.j1])
     | succ kj6 =>
      have H := HA.out
      clear HA
      simp only [csvr_record.j1] at H
      by_cases c19 : x37_6 = true
      ·subst c19
       replace H := iT H
       have H' := Aside0.mk H
       clear H
       go_wp2
       go_roundg kj6
       case measure => have := HK1.out; have := HJ6.out; omega
       case rel => exact ⟨(wrap64 (t151 + 1)), (y156), (x148000_1), (x148001_1), oR, H', ⟨by have := HK1.out; have := HJ6.out; omega⟩, ⟨by refine fR (h := ?_); exact Kd.R_mono HO_7.out (fun _ hk => trivial)⟩, ⟨fB BK147.out⟩, ⟨fW HB.out⟩⟩
      ·replace c19 := Bool.eq_false_iff.mpr c19
       subst c19
       replace H := iF H
       obtain ⟨⟨t160, t161⟩, A200, H⟩ := bS H
       dsimp only at H
       have A20 := Aside0.mk A200
       clear A200
       by_cases c21 : t161 = true
       ·subst c21
        replace H := iT H
        simp only [Option.some.injEq, Prod.mk.injEq] at H
        obtain ⟨rfl, rfl, rfl, rfl⟩ := H
        go_wp2_with (first | ((with_reducible refine gate_callee (f := 73) rfl ?_); refine goesL_ (some 43) rfl rfl Tryd.func73 (by kernel_rfl) rfl #[.slice A0 l0.length c0, .int .i64 t151] rfl oA ?_; (with_reducible refine (csvr_end.calls _ _ l0 t151 t160 true _ ?side1 ?side2 A20.out).mono ?_); (case side1 => exact fC (Kd.C_below HR0.out HB.out)); (case side2 => exact HC0.out); rintro e w' ⟨rfl, ⟨nd, rfl⟩⟩; refine ⟨_, rfl, ?_⟩; (try (rw [drewN_self wc]; generalize hq_ : World.drewN wc _ = wc; have n0_ : Aside0 (Kd.R k59 59 wc w.heap.size (fun k_ => k_ ≠ gb154) v157 y156) := ⟨by rw [← hq_]; exact (fR HO_7.out)⟩; have n1_ : Aside0 (wc.heap[gb147]? = some (.cells #[.int .i64 x148000_1, .int .i64 x148001_1] 54 (0, 0))) := ⟨by rw [← hq_]; exact (fB BK147.out)⟩; have n2_ : Aside0 (wc.heap[gb154]? = some (.cells #[.int .i64 t148, .string t149, .int .i64 t150] 59 (0, 0))) := ⟨by rw [← hq_]; exact (fB BK154.out)⟩; have n3_ : Aside0 (wc.heap[gb155]? = some (.cells #[.int .i64 t152, .int .i64 t153] 54 (0, 0))) := ⟨by rw [← hq_]; exact (fB BK155.out)⟩; have n4_ : Aside0 (Below w.heap.size w wc) := ⟨by rw [← hq_]; exact (fW HB.out)⟩; clear HO_7 BK147 BK154 BK155 HB hq_; have HO_7 := n0_; have BK147 := n1_; have BK154 := n2_; have BK155 := n3_; have HB := n4_; clear n0_ n1_ n2_ n3_ n4_)); have hnb22 := NB147_154.out; have hnc22 := NB154_147.out; have hnb23 := NB147_155.out; have hnc23 := NB155_147.out; have hcz24_0 : wc.cell? ⟨gb147, 0, none⟩ = some (.int .i64 x148000_1) := (blk_cell BK147.out 0).trans rfl; have hcz24_1 : wc.cell? ⟨gb147, 1, none⟩ = some (.int .i64 x148001_1) := (blk_cell BK147.out 1).trans rfl; have hfz24_0 := blk_frozen BK147.out 0; have hfz24_1 := blk_frozen BK147.out 1))
        refine bodyPost_ret (results_list (rs := [.tmp 4, .tmp 5, .cell 6 54]) rfl (by simp) (.tmp (.tmp (.cell gb147 54 #[.int .i64 0, .int .i64 0] (0, 0) _ rfl (by refine fB (h := ?_); refine blk_put (cs := #[.int .i64 0, .int .i64 x148001_1]) ?_ 1 _ rfl; refine fB (h := ?_); refine blk_put (cs := #[.int .i64 x148000_1, .int .i64 x148001_1]) ?_ 0 _ rfl; refine fB (h := ?_); exact BK147.out) Tryd.underlying54 rfl (by kernel_rfl) .nil)))) rfl ?_
        exact ⟨_, oE, by refine fR (h := ?_); exact Kd.R_mono (Kd.R_far (p := ⟨gb147, 1, none⟩) (Kd.R_far (p := ⟨gb147, 0, none⟩) (Kd.R_types HO_7.out BK147.out (by decide)) (fun _ hk => hk.2) (.int .i64 0)) (fun _ hk => hk.2) (.int .i64 0)) (fun _ hk => trivial), fW HB.out⟩
       ·replace c21 := Bool.eq_false_iff.mpr c21
        subst c21
        replace H := iF H
        simp only [Option.some.injEq, Prod.mk.injEq] at H
        obtain ⟨rfl, rfl, rfl, rfl⟩ := H
        go_wp2_with (first | ((with_reducible refine gate_callee (f := 73) rfl ?_); refine goesL_ (some 43) rfl rfl Tryd.func73 (by kernel_rfl) rfl #[.slice A0 l0.length c0, .int .i64 t151] rfl oA ?_; (with_reducible refine (csvr_end.calls _ _ l0 t151 t160 false _ ?side1 ?side2 A20.out).mono ?_); (case side1 => exact fC (Kd.C_below HR0.out HB.out)); (case side2 => exact HC0.out); rintro e w' ⟨rfl, ⟨nd, rfl⟩⟩; refine ⟨_, rfl, ?_⟩; (try (rw [drewN_self wc]; generalize hq_ : World.drewN wc _ = wc; have n0_ : Aside0 (Kd.R k59 59 wc w.heap.size (fun k_ => k_ ≠ gb154) v157 y156) := ⟨by rw [← hq_]; exact (fR HO_7.out)⟩; have n1_ : Aside0 (wc.heap[gb147]? = some (.cells #[.int .i64 x148000_1, .int .i64 x148001_1] 54 (0, 0))) := ⟨by rw [← hq_]; exact (fB BK147.out)⟩; have n2_ : Aside0 (wc.heap[gb154]? = some (.cells #[.int .i64 t148, .string t149, .int .i64 t150] 59 (0, 0))) := ⟨by rw [← hq_]; exact (fB BK154.out)⟩; have n3_ : Aside0 (wc.heap[gb155]? = some (.cells #[.int .i64 t152, .int .i64 t153] 54 (0, 0))) := ⟨by rw [← hq_]; exact (fB BK155.out)⟩; have n4_ : Aside0 (Below w.heap.size w wc) := ⟨by rw [← hq_]; exact (fW HB.out)⟩; clear HO_7 BK147 BK154 BK155 HB hq_; have HO_7 := n0_; have BK147 := n1_; have BK154 := n2_; have BK155 := n3_; have HB := n4_; clear n0_ n1_ n2_ n3_ n4_)); have hnb25 := NB147_154.out; have hnc25 := NB154_147.out; have hnb26 := NB147_155.out; have hnc26 := NB155_147.out; have hcz27_0 : wc.cell? ⟨gb147, 0, none⟩ = some (.int .i64 x148000_1) := (blk_cell BK147.out 0).trans rfl; have hcz27_1 : wc.cell? ⟨gb147, 1, none⟩ = some (.int .i64 x148001_1) := (blk_cell BK147.out 1).trans rfl; have hfz27_0 := blk_frozen BK147.out 0; have hfz27_1 := blk_frozen BK147.out 1))
        refine bodyPost_ret (results_list (rs := [.tmp 4, .tmp 5, .cell 6 54]) rfl (by simp) (.tmp (.tmp (.cell gb147 54 #[.int .i64 1, .int .i64 t160] (0, 0) _ rfl (by refine fB (h := ?_); refine blk_put (cs := #[.int .i64 1, .int .i64 x148001_1]) ?_ 1 _ rfl; refine fB (h := ?_); refine blk_put (cs := #[.int .i64 x148000_1, .int .i64 x148001_1]) ?_ 0 _ rfl; refine fB (h := ?_); exact BK147.out) Tryd.underlying54 rfl (by kernel_rfl) .nil)))) rfl ?_
        exact ⟨_, oE, by first | exact Kd.R_nil _ _ _ _ _ | exact Kd.N_nil _ _ _ _ _ | exact Kd.V_nil _ _ _ _ _ | exact Kd.Q_nil _ _ _ _ _ | exact Kd.S_nil _ _ _ _ _, fW HB.out⟩
   ·rw [if_neg c5] at H
    have c5b0 : (t152 == 0) = false := beq_eq_false_iff_ne.mpr c5
    have c5b1 : (t152 != 0) = true := bne_iff_ne.mpr c5
    simp only [Option.some.injEq, Prod.mk.injEq] at H
    obtain ⟨rfl, rfl, rfl, rfl⟩ := H
    try go_wp2_with (first | ((with_reducible refine gate_callee (f := 72) rfl ?_); refine goesL_ (some 15) rfl rfl Tryd.func72 (by kernel_rfl) rfl #[.slice A0 l0.length c0, .int .i64 x1_1] rfl oA ?_; (with_reducible refine (csvr_field.calls k1 _ _ l0 x1_1 t148 t149 t150 t151 t152 t153 _ ?side1 ?side2 A4.out).mono ?_); (case side1 => exact fC (Kd.C_below HR0.out HB.out)); (case side2 => exact HC0.out); rintro e w28 ⟨rfl, hb⟩; refine ⟨_, rfl, ?_⟩; replace HO_7 := Aside0.mk (Kd.R_below (fR HO_7.out) hb); replace BK147 := Aside0.mk (blk_below (fB BK147.out) hb); replace HB := Aside0.mk (below_step (fW HB.out) hb); (try clear hb); (try clear hb2); (try clear hk); (try clear hi)) | ((with_reducible refine gate_dst (N := 8) rfl ?_); refine bE (N := 8) (cs := #[.int .i64 0, .string (⟨#[]⟩ : ByteArray), .int .i64 0]) (t := 59) (h := ?_); intro gb154 hg w29 hbox hb; replace HO_7 := Aside0.mk (Kd.R_below (Kd.R_elderB (fR HO_7.out) gb154 (Nat.le_of_eq hg.symm)) hb); have BK154 := Aside0.mk (hbox); have GW154 := Aside0.mk (gE hg (fW HB.out)); have GE154 := GW154; replace HB := Aside0.mk (below_step (fW HB.out) hb); have NB147_154 := Aside0.mk ((by rw [hg]; exact Nat.ne_of_lt (blk_lt (g := gb147) (o := .cells #[.int .i64 x148000_1, .int .i64 x148001_1] 54 (0, 0)) (fB BK147.out)) : gb147 ≠ gb154)); have NB154_147 := Aside0.mk ((by rw [hg]; exact Nat.ne_of_gt (blk_lt (g := gb147) (o := .cells #[.int .i64 x148000_1, .int .i64 x148001_1] 54 (0, 0)) (fB BK147.out)) : gb154 ≠ gb147)); replace BK147 := Aside0.mk (blk_below (fB BK147.out) hb); clear hb hbox hg) | ((with_reducible refine gate_dst (N := 10) rfl ?_); refine bE (N := 10) (cs := #[.int .i64 0, .int .i64 0]) (t := 54) (h := ?_); intro gb155 hg w30 hbox hb; replace HO_7 := Aside0.mk (Kd.R_below (fR HO_7.out) hb); have BK155 := Aside0.mk (hbox); have GW155 := Aside0.mk (gE hg (fW HB.out)); have GE155 := GW155; replace HB := Aside0.mk (below_step (fW HB.out) hb); have NB147_155 := Aside0.mk ((by rw [hg]; exact Nat.ne_of_lt (blk_lt (g := gb147) (o := .cells #[.int .i64 x148000_1, .int .i64 x148001_1] 54 (0, 0)) (fB BK147.out)) : gb147 ≠ gb155)); have NB155_147 := Aside0.mk ((by rw [hg]; exact Nat.ne_of_gt (blk_lt (g := gb147) (o := .cells #[.int .i64 x148000_1, .int .i64 x148001_1] 54 (0, 0)) (fB BK147.out)) : gb155 ≠ gb147)); replace BK147 := Aside0.mk (blk_below (fB BK147.out) hb); have NB154_155 := Aside0.mk ((by rw [hg]; exact Nat.ne_of_lt (blk_lt (g := gb154) (o := .cells #[.int .i64 0, .string (⟨#[]⟩ : ByteArray), .int .i64 0] 59 (0, 0)) (fB BK154.out)) : gb154 ≠ gb155)); have NB155_154 := Aside0.mk ((by rw [hg]; exact Nat.ne_of_gt (blk_lt (g := gb154) (o := .cells #[.int .i64 0, .string (⟨#[]⟩ : ByteArray), .int .i64 0] 59 (0, 0)) (fB BK154.out)) : gb155 ≠ gb154)); replace BK154 := Aside0.mk (blk_below (fB BK154.out) hb); clear hb hbox hg; have hnb31 := NB154_147.out; have hnc31 := NB147_154.out; have hnb32 := NB154_155.out; have hnc32 := NB155_154.out; have hcz33_0 : w30.cell? ⟨gb154, 0, none⟩ = some (.int .i64 0) := (blk_cell BK154.out 0).trans rfl; have hcz33_1 : w30.cell? ⟨gb154, 1, none⟩ = some (.string (⟨#[]⟩ : ByteArray)) := (blk_cell BK154.out 1).trans rfl; have hcz33_2 : w30.cell? ⟨gb154, 2, none⟩ = some (.int .i64 0) := (blk_cell BK154.out 2).trans rfl; have hfz33_0 := blk_frozen BK154.out 0; have hfz33_1 := blk_frozen BK154.out 1; have hfz33_2 := blk_frozen BK154.out 2; have hnb34 := NB155_147.out; have hnc34 := NB147_155.out; have hcz35_0 : w30.cell? ⟨gb155, 0, none⟩ = some (.int .i64 0) := (blk_cell BK155.out 0).trans rfl; have hcz35_1 : w30.cell? ⟨gb155, 1, none⟩ = some (.int .i64 0) := (blk_cell BK155.out 1).trans rfl; have hfz35_0 := blk_frozen BK155.out 0; have hfz35_1 := blk_frozen BK155.out 1))
    have n0_ : Aside0 (Kd.R k59 59 (((((w30.setCell ⟨gb154, 0, none⟩ (.int .i64 t148)).setCell ⟨gb154, 1, none⟩ (.string t149)).setCell ⟨gb154, 2, none⟩ (.int .i64 t150)).setCell ⟨gb155, 0, none⟩ (.int .i64 t152)).setCell ⟨gb155, 1, none⟩ (.int .i64 t153)) w.heap.size (fun k_ => k_ ≠ gb154) u7 x7_1) := ⟨by refine fR (h := ?_); exact Kd.R_mono (Kd.R_far (p := ⟨gb155, 1, none⟩) (Kd.R_far (p := ⟨gb155, 0, none⟩) (Kd.R_far (p := ⟨gb154, 2, none⟩) (Kd.R_far (p := ⟨gb154, 1, none⟩) (Kd.R_far (p := ⟨gb154, 0, none⟩) (Kd.R_types (Kd.R_mono HO_7.out (fun k_ hk => (⟨hk, hk.2⟩ : _ ∧ k_ ≠ gb154))) BK155.out (by decide)) (fun _ hk => hk.1.2) (.int .i64 t148)) (fun _ hk => hk.1.2) (.string t149)) (fun _ hk => hk.1.2) (.int .i64 t150)) (fun _ hk => hk.2) (.int .i64 t152)) (fun _ hk => hk.2) (.int .i64 t153)) (fun _ hk => hk.1.1.2)⟩
    have n1_ : Aside0 ((((((w30.setCell ⟨gb154, 0, none⟩ (.int .i64 t148)).setCell ⟨gb154, 1, none⟩ (.string t149)).setCell ⟨gb154, 2, none⟩ (.int .i64 t150)).setCell ⟨gb155, 0, none⟩ (.int .i64 t152)).setCell ⟨gb155, 1, none⟩ (.int .i64 t153)).heap[gb147]? = some (.cells #[.int .i64 x148000_1, .int .i64 x148001_1] 54 (0, 0))) := ⟨by refine fB (h := ?_); refine blk_far ?_ NB147_155.out _; refine fB (h := ?_); refine blk_far ?_ NB147_155.out _; refine fB (h := ?_); refine blk_far ?_ NB147_154.out _; refine fB (h := ?_); refine blk_far ?_ NB147_154.out _; refine fB (h := ?_); refine blk_far ?_ NB147_154.out _; refine fB (h := ?_); exact BK147.out⟩
    have n2_ : Aside0 ((((((w30.setCell ⟨gb154, 0, none⟩ (.int .i64 t148)).setCell ⟨gb154, 1, none⟩ (.string t149)).setCell ⟨gb154, 2, none⟩ (.int .i64 t150)).setCell ⟨gb155, 0, none⟩ (.int .i64 t152)).setCell ⟨gb155, 1, none⟩ (.int .i64 t153)).heap[gb154]? = some (.cells #[.int .i64 t148, .string t149, .int .i64 t150] 59 (0, 0))) := ⟨by refine fB (h := ?_); refine blk_far ?_ NB154_155.out _; refine fB (h := ?_); refine blk_far ?_ NB154_155.out _; refine fB (h := ?_); refine blk_put (cs := #[.int .i64 t148, .string t149, .int .i64 0]) ?_ 2 _ rfl; refine fB (h := ?_); refine blk_put (cs := #[.int .i64 t148, .string (⟨#[]⟩ : ByteArray), .int .i64 0]) ?_ 1 _ rfl; refine fB (h := ?_); refine blk_put (cs := #[.int .i64 0, .string (⟨#[]⟩ : ByteArray), .int .i64 0]) ?_ 0 _ rfl; refine fB (h := ?_); exact BK154.out⟩
    have n3_ : Aside0 ((((((w30.setCell ⟨gb154, 0, none⟩ (.int .i64 t148)).setCell ⟨gb154, 1, none⟩ (.string t149)).setCell ⟨gb154, 2, none⟩ (.int .i64 t150)).setCell ⟨gb155, 0, none⟩ (.int .i64 t152)).setCell ⟨gb155, 1, none⟩ (.int .i64 t153)).heap[gb155]? = some (.cells #[.int .i64 t152, .int .i64 t153] 54 (0, 0))) := ⟨by refine fB (h := ?_); refine blk_put (cs := #[.int .i64 t152, .int .i64 0]) ?_ 1 _ rfl; refine fB (h := ?_); refine blk_put (cs := #[.int .i64 0, .int .i64 0]) ?_ 0 _ rfl; refine fB (h := ?_); refine blk_far ?_ NB155_154.out _; refine fB (h := ?_); refine blk_far ?_ NB155_154.out _; refine fB (h := ?_); refine blk_far ?_ NB155_154.out _; refine fB (h := ?_); exact BK155.out⟩
    have n4_ : Aside0 (Below w.heap.size w (((((w30.setCell ⟨gb154, 0, none⟩ (.int .i64 t148)).setCell ⟨gb154, 1, none⟩ (.string t149)).setCell ⟨gb154, 2, none⟩ (.int .i64 t150)).setCell ⟨gb155, 0, none⟩ (.int .i64 t152)).setCell ⟨gb155, 1, none⟩ (.int .i64 t153))) := ⟨fW HB.out⟩
    (try clear HO_7)
    (try clear BK147)
    (try clear BK154)
    (try clear BK155)
    (try clear HB)
    generalize (((((w30.setCell ⟨gb154, 0, none⟩ (.int .i64 t148)).setCell ⟨gb154, 1, none⟩ (.string t149)).setCell ⟨gb154, 2, none⟩ (.int .i64 t150)).setCell ⟨gb155, 0, none⟩ (.int .i64 t152)).setCell ⟨gb155, 1, none⟩ (.int .i64 t153)) = w36 at n0_ n1_ n2_ n3_ n4_ ⊢
    have HO_7 := n0_
    have BK147 := n1_
    have BK154 := n2_
    have BK155 := n3_
    have HB := n4_
    clear n0_ n1_ n2_ n3_ n4_
    have n0_ := Aside0.mk (Kd.R_drew HO_7.out)
    have n1_ := Aside0.mk (blk_drew BK147.out)
    have n2_ := Aside0.mk (blk_drew BK154.out)
    have n3_ := Aside0.mk (blk_drew BK155.out)
    have n4_ := Aside0.mk (below_drew1 HB.out)
    clear HO_7
    clear BK147
    clear BK154
    clear BK155
    clear HB
    have HO_7 := n0_
    have BK147 := n1_
    have BK154 := n2_
    have BK155 := n3_
    have HB := n4_
    clear n0_ n1_ n2_ n3_ n4_
    refine start_ (n := 4) (S := fun w' => w'.cell? ⟨gb155, 0, none⟩ = some (.int .i64 t152) ∧ w'.cell? ⟨gb155, 1, none⟩ = some (.int .i64 t153)) (ds := []) #[false, false, false, false] (by kernel_rfl) rfl rfl ⟨(blk_cell BK155.out 0).trans rfl, (blk_cell BK155.out 1).trans rfl⟩ (fun hHeld => ?_)
    generalize w36.drew = w37 at HO_7 BK147 BK154 BK155 HB hHeld ⊢
    refine pure_ (i := 1) (N := some 4) (v := ?_) (a' := ?_) #[false, true, false, false] rfl rfl (by kernel_rfl) (fun _ _ _ h => h) (Or.inl ⟨by rfl, ?_⟩) ?_ ?_
    rotate_left
    ·intro w'
     go_simp
     with_reducible rfl
    rotate_left
    ·refine sP (h := ?_)
     rfl
    refine pure_ (i := 2) (N := some 5) (v := ?_) (a' := ?_) #[false, true, true, false] rfl rfl (by kernel_rfl) (fun _ _ _ h => h) (Or.inl ⟨by rfl, ?_⟩) ?_ ?_
    rotate_left
    ·intro w'
     go_simp
     with_reducible rfl
    rotate_left
    ·refine sP (h := ?_)
     rfl
    refine take_ (i := 0) (N := some 22) (v := ?_) (a' := ?_) #[true, true, true, false] rfl rfl (by kernel_rfl) (fun _ _ _ h => h) (Or.inl ⟨by rfl, ?_⟩) hHeld ?_ ?_
    rotate_left
    ·rintro w' ⟨s0, s1⟩
     go_simp
     with_reducible rfl
    rotate_left
    ·refine sP (h := ?_)
     rfl
    refine one_ (i := 3) (N := none) #[true, true, true, true] rfl rfl (by kernel_rfl) (by decide) (fun K hK => ?_)
    have hs38 : w37.cell? ⟨gb147, 0, none⟩ = some (.int .i64 x148000_1) := (blk_cell BK147.out 0).trans rfl
    have hfs38 := blk_frozen BK147.out 0
    have hns38_1 := NB154_147.out
    have hns38_2 := NB155_147.out
    have hms38_1 := NB147_154.out
    have hms38_2 := NB147_155.out
    have hs39 : w37.cell? ⟨gb147, 1, none⟩ = some (.int .i64 x148001_1) := (blk_cell BK147.out 1).trans rfl
    have hfs39 := blk_frozen BK147.out 1
    have hns39_1 := NB154_147.out
    have hns39_2 := NB155_147.out
    have hms39_1 := NB147_154.out
    have hms39_2 := NB147_155.out
    refine skip_ (w1 := ?_) (by rfl) rfl ?_ ?_
    rotate_left
    ·go_simp
     rfl
    refine hK.out _ _ ⟨((cell_far (p := ⟨gb147, _, none⟩) NB155_147.out _).trans (((cell_far (p := ⟨gb147, _, none⟩) NB155_147.out _).trans (hHeld.1)))), ((cell_far (p := ⟨gb147, _, none⟩) NB155_147.out _).trans (((cell_far (p := ⟨gb147, _, none⟩) NB155_147.out _).trans (hHeld.2))))⟩ (fun hHeld => ?_)
    clear hK K
    refine done_ (by kernel_rfl) ?_
    try go_wp2
    refine bodyPost_ret (results_list (rs := [.tmp 4, .tmp 5, .cell 6 54]) rfl (by simp) (.tmp (.tmp (.cell gb147 54 #[.int .i64 t152, .int .i64 t153] (0, 0) _ rfl (by refine fB (h := ?_); refine blk_put (cs := #[.int .i64 t152, .int .i64 x148001_1]) ?_ 1 _ rfl; refine fB (h := ?_); refine blk_put (cs := #[.int .i64 x148000_1, .int .i64 x148001_1]) ?_ 0 _ rfl; refine fB (h := ?_); exact BK147.out) Tryd.underlying54 rfl (by kernel_rfl) .nil)))) rfl ?_
    exact ⟨_, oE, by first | exact Kd.R_nil _ _ _ _ _ | exact Kd.N_nil _ _ _ _ _ | exact Kd.V_nil _ _ _ _ _ | exact Kd.Q_nil _ _ _ _ _ | exact Kd.S_nil _ _ _ _ _, fW HB.out⟩

/-! ### csvr_Parse: function 33 -/
def csvr_Parse.l0 : Nat → List Int → List (List (S59)) → Int → Option ((List (List (S59))) × Int × Int)
 | 0, _, _, _ => none
 | k + 1, x0, x6, x7 => if x7 < (x0.length : Int) then ((csvr_record.f k x0 x7).bind fun bt167 => (if bt167.2.2.1 = 0 then (if x6.length < 5864062014805 then (csvr_Parse.l0 k x0 (x6 ++ [bt167.1]) bt167.2.1) else (none)) else (some (([] : List (List (S59))), bt167.2.2.1, bt167.2.2.2)))) else (some (x6, 0, 0))
def csvr_Parse.f (k : Nat) (l0 : List Int) : Option ((List (List (S59))) × Int × Int) := (scan_Long.f l0).bind fun bt163 => (if bt163.2.2 = true then (some (([] : List (List (S59))), bt163.1, bt163.2.1)) else (csvr_Parse.l0 k l0 ([] : List (List (S59))) 0))
theorem csvr_Parse.mono_l : ∀ k, (∀ y0 y1 y2, LeO (csvr_Parse.l0 k y0 y1 y2) (csvr_Parse.l0 (k + 1) y0 y1 y2))
 | 0 => fun _ _ _ r h => by simp [csvr_Parse.l0] at h
 | k + 1 => by
  have ih0 := csvr_Parse.mono_l k
  ·intro y0 y1 y2
   unfold csvr_Parse.l0
   repeat' first
   | (with_reducible first | exact ih0 _ _ _ | exact csvr_record.mono _ _ _ | exact LeO.refl _ | exact LeO.none _ | refine LeO.ite ?_ ?_ | refine LeO.bind ?_ (fun _ => ?_))
   | exact ih0 _ _ _
   | exact csvr_record.mono _ _ _
   | exact LeO.none _
   | refine LeO.ite ?_ ?_
   | refine LeO.bind ?_ (fun _ => ?_)
theorem csvr_Parse.mono : ∀ a0 k, LeO (csvr_Parse.f k a0) (csvr_Parse.f (k + 1) a0) := by
 intro a0 k
 have ih0 := csvr_Parse.mono_l k
 unfold csvr_Parse.f
 repeat' first
   | (with_reducible first | exact ih0 _ _ _ | exact csvr_record.mono _ _ _ | exact LeO.refl _ | exact LeO.none _ | refine LeO.ite ?_ ?_ | refine LeO.bind ?_ (fun _ => ?_))
   | exact ih0 _ _ _
   | exact csvr_record.mono _ _ _
   | exact LeO.none _
   | refine LeO.ite ?_ ?_
   | refine LeO.bind ?_ (fun _ => ?_)
set_option maxHeartbeats 8000000 in
set_option maxRecDepth 100000 in
theorem csvr_Parse.calls (k : Nat) (A0 : Option Addr) (c0 : Nat) (l0 : List Int) (r1 : List (List (S59))) (r2 : Int) (r3 : Int) (w : World) (hr0 : Kd.C (Kd.int .u8) w A0 l0.length l0) (hc0 : l0.length ≤ c0) (h : csvr_Parse.f k l0 = some (r1, r2, r3)) :
  Calls Tryd.prog 33 #[.slice A0 l0.length c0] w fun e w' => ∃ v0_ : Value, e = .returned (.tuple #[v0_, .agg #[.int .i64 r2, .int .i64 r3]]) ∧ Kd.S (Kd.slice 59 k59) 57 w' w.heap.size (fun _ => True) v0_ r1 ∧ Below w.heap.size w w' := by
 have hu54 := Tryd.underlying54
 have HR0 := Aside0.mk hr0
 have HC0 := Aside0.mk hc0
 clear hr0 hc0
 have HB := Aside0.mk (Below.refl w.heap.size w)
 have H : ((scan_Long.f l0).bind fun bt163 => (if bt163.2.2 = true then (some (([] : List (List (S59))), bt163.1, bt163.2.1)) else (csvr_Parse.l0 k l0 ([] : List (List (S59))) 0))) = some (r1, r2, r3) := h
 clear h
 obtain ⟨⟨t163, t164, t165⟩, A20, H⟩ := bS H
 dsimp only at H
 have A2 := Aside0.mk A20
 clear A20
 by_cases c3 : t165 = true
 ·subst c3
  replace H := iT H
  simp only [Option.some.injEq, Prod.mk.injEq] at H
  obtain ⟨rfl, rfl, rfl⟩ := H
  go_enter Tryd.func33, Tryd.ntmps33
  try go_wp2_with (first | ((with_reducible refine gate_dst (N := 3) rfl ?_); refine bE (N := 3) (cs := #[.int .i64 0, .int .i64 0]) (t := 54) (h := ?_); intro gb162 hg w4 hbox hb; have BK162 := Aside0.mk (hbox); have GW162 := Aside0.mk (gE hg (fW HB.out)); have GE162 := GW162; replace HB := Aside0.mk (below_step (fW HB.out) hb); clear hb hbox hg) | ((with_reducible refine gate_callee (f := 56) rfl ?_); refine goesL_ (some 13) rfl rfl Tryd.func56 (by kernel_rfl) rfl #[.slice A0 l0.length c0] rfl oA ?_; (with_reducible refine (scan_Long.calls _ _ l0 t163 t164 true _ ?side1 ?side2 A2.out).mono ?_); (case side1 => exact fC (Kd.C_below HR0.out HB.out)); (case side2 => exact HC0.out); rintro e w5 ⟨rfl, hb⟩; refine ⟨_, rfl, ?_⟩; replace BK162 := Aside0.mk (blk_below (fB BK162.out) hb); replace HB := Aside0.mk (below_step (fW HB.out) hb); (try clear hb); (try clear hb2); (try clear hk); (try clear hi)) | ((with_reducible refine gate_dst (N := 4) rfl ?_); refine bE (N := 4) (cs := #[.int .i64 0, .int .i64 0]) (t := 54) (h := ?_); intro gb166 hg w6 hbox hb; have BK166 := Aside0.mk (hbox); have GW166 := Aside0.mk (gE hg (fW HB.out)); have GE166 := GW166; replace HB := Aside0.mk (below_step (fW HB.out) hb); have NB162_166 := Aside0.mk ((by rw [hg]; exact Nat.ne_of_lt (blk_lt (g := gb162) (o := .cells #[.int .i64 0, .int .i64 0] 54 (0, 0)) (fB BK162.out)) : gb162 ≠ gb166)); have NB166_162 := Aside0.mk ((by rw [hg]; exact Nat.ne_of_gt (blk_lt (g := gb162) (o := .cells #[.int .i64 0, .int .i64 0] 54 (0, 0)) (fB BK162.out)) : gb166 ≠ gb162)); replace BK162 := Aside0.mk (blk_below (fB BK162.out) hb); clear hb hbox hg; have hnb7 := NB166_162.out; have hnc7 := NB162_166.out; have hcz8_0 : w6.cell? ⟨gb166, 0, none⟩ = some (.int .i64 0) := (blk_cell BK166.out 0).trans rfl; have hcz8_1 : w6.cell? ⟨gb166, 1, none⟩ = some (.int .i64 0) := (blk_cell BK166.out 1).trans rfl; have hfz8_0 := blk_frozen BK166.out 0; have hfz8_1 := blk_frozen BK166.out 1))
  have n0_ : Aside0 (((w6.setCell ⟨gb166, 0, none⟩ (.int .i64 t163)).setCell ⟨gb166, 1, none⟩ (.int .i64 t164)).heap[gb162]? = some (.cells #[.int .i64 0, .int .i64 0] 54 (0, 0))) := ⟨by refine fB (h := ?_); refine blk_far ?_ NB162_166.out _; refine fB (h := ?_); refine blk_far ?_ NB162_166.out _; refine fB (h := ?_); exact BK162.out⟩
  have n1_ : Aside0 (((w6.setCell ⟨gb166, 0, none⟩ (.int .i64 t163)).setCell ⟨gb166, 1, none⟩ (.int .i64 t164)).heap[gb166]? = some (.cells #[.int .i64 t163, .int .i64 t164] 54 (0, 0))) := ⟨by refine fB (h := ?_); refine blk_put (cs := #[.int .i64 t163, .int .i64 0]) ?_ 1 _ rfl; refine fB (h := ?_); refine blk_put (cs := #[.int .i64 0, .int .i64 0]) ?_ 0 _ rfl; refine fB (h := ?_); exact BK166.out⟩
  have n2_ : Aside0 (Below w.heap.size w ((w6.setCell ⟨gb166, 0, none⟩ (.int .i64 t163)).setCell ⟨gb166, 1, none⟩ (.int .i64 t164))) := ⟨fW HB.out⟩
  (try clear BK162)
  (try clear BK166)
  (try clear HB)
  generalize ((w6.setCell ⟨gb166, 0, none⟩ (.int .i64 t163)).setCell ⟨gb166, 1, none⟩ (.int .i64 t164)) = w9 at n0_ n1_ n2_ ⊢
  have BK162 := n0_
  have BK166 := n1_
  have HB := n2_
  clear n0_ n1_ n2_
  have n0_ := Aside0.mk (blk_drew BK162.out)
  have n1_ := Aside0.mk (blk_drew BK166.out)
  have n2_ := Aside0.mk (below_drew1 HB.out)
  clear BK162
  clear BK166
  clear HB
  have BK162 := n0_
  have BK166 := n1_
  have HB := n2_
  clear n0_ n1_ n2_
  refine start_ (n := 3) (S := fun w' => w'.cell? ⟨gb166, 0, none⟩ = some (.int .i64 t163) ∧ w'.cell? ⟨gb166, 1, none⟩ = some (.int .i64 t164)) (ds := []) #[false, false, false] (by kernel_rfl) rfl rfl ⟨(blk_cell BK166.out 0).trans rfl, (blk_cell BK166.out 1).trans rfl⟩ (fun hHeld => ?_)
  generalize w9.drew = w10 at BK162 BK166 HB hHeld ⊢
  refine pure_ (i := 1) (N := some 2) (v := ?_) (a' := ?_) #[false, true, false] rfl rfl (by kernel_rfl) (fun _ _ _ h => h) (Or.inl ⟨by rfl, ?_⟩) ?_ ?_
  rotate_left
  ·intro w'
   go_simp
   with_reducible rfl
  rotate_left
  ·refine sP (h := ?_)
   rfl
  refine take_ (i := 0) (N := some 17) (v := ?_) (a' := ?_) #[true, true, false] rfl rfl (by kernel_rfl) (fun _ _ _ h => h) (Or.inl ⟨by rfl, ?_⟩) hHeld ?_ ?_
  rotate_left
  ·rintro w' ⟨s0, s1⟩
   go_simp
   with_reducible rfl
  rotate_left
  ·refine sP (h := ?_)
   rfl
  refine one_ (i := 2) (N := none) #[true, true, true] rfl rfl (by kernel_rfl) (by decide) (fun K hK => ?_)
  have hs11 : w10.cell? ⟨gb162, 0, none⟩ = some (.int .i64 0) := (blk_cell BK162.out 0).trans rfl
  have hfs11 := blk_frozen BK162.out 0
  have hns11_1 := NB166_162.out
  have hms11_1 := NB162_166.out
  have hs12 : w10.cell? ⟨gb162, 1, none⟩ = some (.int .i64 0) := (blk_cell BK162.out 1).trans rfl
  have hfs12 := blk_frozen BK162.out 1
  have hns12_1 := NB166_162.out
  have hms12_1 := NB162_166.out
  refine skip_ (w1 := ?_) (by rfl) rfl ?_ ?_
  rotate_left
  ·go_simp
   rfl
  refine hK.out _ _ ⟨((cell_far (p := ⟨gb162, _, none⟩) NB166_162.out _).trans (((cell_far (p := ⟨gb162, _, none⟩) NB166_162.out _).trans (hHeld.1)))), ((cell_far (p := ⟨gb162, _, none⟩) NB166_162.out _).trans (((cell_far (p := ⟨gb162, _, none⟩) NB166_162.out _).trans (hHeld.2))))⟩ (fun hHeld => ?_)
  clear hK K
  refine done_ (by kernel_rfl) ?_
  try go_wp2
  refine bodyPost_ret (results_tc rfl _ _ gb162 54 #[.int .i64 t163, .int .i64 t164] (0, 0) _ rfl (by refine fB (h := ?_); refine blk_put (cs := #[.int .i64 t163, .int .i64 0]) ?_ 1 _ rfl; refine fB (h := ?_); refine blk_put (cs := #[.int .i64 0, .int .i64 0]) ?_ 0 _ rfl; refine fB (h := ?_); exact BK162.out) Tryd.underlying54 rfl (by kernel_rfl)) rfl ?_
  exact ⟨_, oE, by first | exact Kd.S_nil _ _ _ _ _ | exact Kd.N_nil _ _ _ _ _ | exact Kd.V_nil _ _ _ _ _ | exact Kd.Q_nil _ _ _ _ _ | exact Kd.R_nil _ _ _ _ _, fW HB.out⟩
 ·replace c3 := Bool.eq_false_iff.mpr c3
  subst c3
  replace H := iF H
  have H' := Aside0.mk H
  clear H
  go_enter Tryd.func33, Tryd.ntmps33
  go_wp2_with (first | ((with_reducible refine gate_dst (N := 3) rfl ?_); refine bE (N := 3) (cs := #[.int .i64 0, .int .i64 0]) (t := 54) (h := ?_); intro gb162 hg w13 hbox hb; have BK162 := Aside0.mk (hbox); have GW162 := Aside0.mk (gE hg (fW HB.out)); have GE162 := GW162; replace HB := Aside0.mk (below_step (fW HB.out) hb); clear hb hbox hg) | ((with_reducible refine gate_callee (f := 56) rfl ?_); refine goesL_ (some 13) rfl rfl Tryd.func56 (by kernel_rfl) rfl #[.slice A0 l0.length c0] rfl oA ?_; (with_reducible refine (scan_Long.calls _ _ l0 t163 t164 false _ ?side1 ?side2 A2.out).mono ?_); (case side1 => exact fC (Kd.C_below HR0.out HB.out)); (case side2 => exact HC0.out); rintro e w14 ⟨rfl, hb⟩; refine ⟨_, rfl, ?_⟩; replace BK162 := Aside0.mk (blk_below (fB BK162.out) hb); replace HB := Aside0.mk (below_step (fW HB.out) hb); (try clear hb); (try clear hb2); (try clear hk); (try clear hi)) | ((with_reducible refine gate_dst (N := 4) rfl ?_); refine bE (N := 4) (cs := #[.int .i64 0, .int .i64 0]) (t := 54) (h := ?_); intro gb166 hg w15 hbox hb; have BK166 := Aside0.mk (hbox); have GW166 := Aside0.mk (gE hg (fW HB.out)); have GE166 := GW166; replace HB := Aside0.mk (below_step (fW HB.out) hb); have NB162_166 := Aside0.mk ((by rw [hg]; exact Nat.ne_of_lt (blk_lt (g := gb162) (o := .cells #[.int .i64 0, .int .i64 0] 54 (0, 0)) (fB BK162.out)) : gb162 ≠ gb166)); have NB166_162 := Aside0.mk ((by rw [hg]; exact Nat.ne_of_gt (blk_lt (g := gb162) (o := .cells #[.int .i64 0, .int .i64 0] 54 (0, 0)) (fB BK162.out)) : gb166 ≠ gb162)); replace BK162 := Aside0.mk (blk_below (fB BK162.out) hb); clear hb hbox hg; have hnb16 := NB166_162.out; have hnc16 := NB162_166.out; have hcz17_0 : w15.cell? ⟨gb166, 0, none⟩ = some (.int .i64 0) := (blk_cell BK166.out 0).trans rfl; have hcz17_1 : w15.cell? ⟨gb166, 1, none⟩ = some (.int .i64 0) := (blk_cell BK166.out 1).trans rfl; have hfz17_0 := blk_frozen BK166.out 0; have hfz17_1 := blk_frozen BK166.out 1))
  go_loopg [6, 7] k (fun kq v6 v7 w' => ∃ (x6_1 : List (List (S59))) (x7_1 : Int) (x163000_1 : Int) (x163001_1 : Int), v7 = .int .i64 x7_1 ∧ Aside0 (csvr_Parse.l0 kq l0 x6_1 x7_1 = some (r1, r2, r3)) ∧ Aside0 (kq ≤ k) ∧ Aside0 (Kd.S (Kd.slice 59 k59) 57 w' w.heap.size (fun _ => True) v6 x6_1) ∧ Aside0 (w'.heap[gb162]? = some (.cells #[.int .i64 x163000_1, .int .i64 x163001_1] 54 (0, 0))) ∧ Aside0 (w'.heap[gb166]? = some (.cells #[.int .i64 t163, .int .i64 t164] 54 (0, 0))) ∧ Aside0 (Below w.heap.size w w'))
  case atStart => exact ⟨(([] : List (List (S59)))), (0), (0), (0), oR, H', ⟨Nat.le_refl _⟩, ⟨by first | exact Kd.S_nil _ _ _ _ _ | exact Kd.N_nil _ _ _ _ _ | exact Kd.V_nil _ _ _ _ _ | exact Kd.Q_nil _ _ _ _ _ | exact Kd.R_nil _ _ _ _ _⟩, ⟨by refine fB (h := ?_); refine blk_far ?_ NB162_166.out _; refine fB (h := ?_); refine blk_far ?_ NB162_166.out _; refine fB (h := ?_); exact BK162.out⟩, ⟨by refine fB (h := ?_); refine blk_put (cs := #[.int .i64 t163, .int .i64 0]) ?_ 1 _ rfl; refine fB (h := ?_); refine blk_put (cs := #[.int .i64 0, .int .i64 0]) ?_ 0 _ rfl; refine fB (h := ?_); exact BK166.out⟩, ⟨fW HB.out⟩⟩
  case round =>
   clear H'
   try clear c3; try clear hcz17_0; try clear hcz17_1; try clear hcz8_0; try clear hcz8_1; try clear hfz17_0; try clear hfz17_1; try clear hfz8_0; try clear hfz8_1
   obtain ⟨x6_1, x7_1, x163000_1, x163001_1, rfl, HA, HK1, HO_6, BK162, BK166, HB⟩ := hrel
   cases gk with
   | zero => exact absurd HA.out (by simp [csvr_Parse.l0])
   | succ k1 =>
    have H := HA.out
    clear HA
    simp only [csvr_Parse.l0] at H
    by_cases c18 : x7_1 < (l0.length : Int)
    ·rw [if_pos c18] at H
     have c18b0 := decide_eq_true c18
     clear c18
     obtain ⟨⟨t167, t170, t171, t172⟩, A190, H⟩ := bS H
     dsimp only at H
     have A19 := Aside0.mk A190
     clear A190
     by_cases c20 : t171 = 0
     ·rw [if_pos c20] at H
      have c20b0 := qT c20
      have c20b1 := nF c20
      clear c20
      obtain ⟨c21, H⟩ := eT H
      have LMc21 := Aside0.mk c21
      clear c21
      obtain ⟨y174, hy174⟩ : ∃ y_ : List (List (S59)), y_ = (x6_1 ++ [t167]) := ⟨_, rfl⟩
      replace H : (csvr_Parse.l0 k1 l0 y174 t170) = some (r1, r2, r3) := by first | (rw [hy174]; with_reducible exact H) | (have H2_ := (Option.bind_some _ _).symm.trans H; rw [hy174]; with_reducible exact H2_) | (have H2_ := (Option.bind_some _ _).symm.trans H; with_reducible exact H2_) | with_reducible exact H | (rw [hy174]; exact H) | exact H
      have Ny174 := Aside0.mk hy174
      clear hy174
      have H' := Aside0.mk H
      clear H
      go_wp2_with (first | ((with_reducible refine gate_callee (f := 57) rfl ?_); refine goesL_ (some 25) rfl rfl Tryd.func57 (by kernel_rfl) rfl #[.slice A0 l0.length c0, .int .i64 x7_1] rfl oA ?_; (with_reducible refine (csvr_record.calls k1 _ _ l0 x7_1 t167 t170 t171 t172 _ ?side1 ?side2 A19.out).mono ?_); (case side1 => exact fC (Kd.C_below HR0.out HB.out)); (case side2 => exact HC0.out); rintro e w22 ⟨v168, rfl, ho0, hb⟩; refine ⟨_, rfl, ?_⟩; replace HO_6 := Aside0.mk (Kd.S_elder' (fS HO_6.out) (Kd.R_base ho0) hb); have HO169 := Aside0.mk (Kd.R_lower ho0 (below_size (fW HB.out))); replace BK162 := Aside0.mk (blk_below (fB BK162.out) hb); replace BK166 := Aside0.mk (blk_below (fB BK166.out) hb); replace HB := Aside0.mk (below_step (fW HB.out) hb); (try clear hb); (try clear hb2); (try clear hk); (try clear hi); (try clear ho0)) | ((with_reducible refine gate_dst (N := 10) rfl ?_); refine bE (N := 10) (cs := #[.int .i64 0, .int .i64 0]) (t := 54) (h := ?_); intro gb173 hg w23 hbox hb; replace HO_6 := Aside0.mk (Kd.S_below (fS HO_6.out) hb); replace HO169 := Aside0.mk (Kd.R_below (fR HO169.out) hb); have BK173 := Aside0.mk (hbox); have GW173 := Aside0.mk (gE hg (fW HB.out)); have GE173 := GW173; replace HB := Aside0.mk (below_step (fW HB.out) hb); have NB162_173 := Aside0.mk ((by rw [hg]; exact Nat.ne_of_lt (blk_lt (g := gb162) (o := .cells #[.int .i64 x163000_1, .int .i64 x163001_1] 54 (0, 0)) (fB BK162.out)) : gb162 ≠ gb173)); have NB173_162 := Aside0.mk ((by rw [hg]; exact Nat.ne_of_gt (blk_lt (g := gb162) (o := .cells #[.int .i64 x163000_1, .int .i64 x163001_1] 54 (0, 0)) (fB BK162.out)) : gb173 ≠ gb162)); replace BK162 := Aside0.mk (blk_below (fB BK162.out) hb); have NB166_173 := Aside0.mk ((by rw [hg]; exact Nat.ne_of_lt (blk_lt (g := gb166) (o := .cells #[.int .i64 t163, .int .i64 t164] 54 (0, 0)) (fB BK166.out)) : gb166 ≠ gb173)); have NB173_166 := Aside0.mk ((by rw [hg]; exact Nat.ne_of_gt (blk_lt (g := gb166) (o := .cells #[.int .i64 t163, .int .i64 t164] 54 (0, 0)) (fB BK166.out)) : gb173 ≠ gb166)); replace BK166 := Aside0.mk (blk_below (fB BK166.out) hb); clear hb hbox hg; have hnb24 := NB173_162.out; have hnc24 := NB162_173.out; have hnb25 := NB173_166.out; have hnc25 := NB166_173.out; have hcz26_0 : w23.cell? ⟨gb173, 0, none⟩ = some (.int .i64 0) := (blk_cell BK173.out 0).trans rfl; have hcz26_1 : w23.cell? ⟨gb173, 1, none⟩ = some (.int .i64 0) := (blk_cell BK173.out 1).trans rfl; have hfz26_0 := blk_frozen BK173.out 0; have hfz26_1 := blk_frozen BK173.out 1) | ((with_reducible refine gate_store (t := 54) (p := 10) rfl ?_); refine store_event (t := 54) (p := 10) (v := ?vo_w27) (w1 := ((w23.setCell ⟨gb173, 0, none⟩ (.int .i64 t171)).setCell ⟨gb173, 1, none⟩ (.int .i64 t172))) ?hg ?ho ?hn ?hr ?_; (case ho => rfl); (case hg => rfl); (case hn => rfl); (case hr => first | (go_simp; done) | (go_simp; rfl)); intro w27 hw; have n0_ : Aside0 (Kd.S (Kd.slice 59 k59) 57 w27 w.heap.size (fun k_ => some k_ ≠ (v168 : Value).ownBlock) u6 x6_1) := ⟨(by rw [hw]; exact (by refine fS (h := ?_); exact Kd.S_mono (Kd.S_far (p := ⟨gb173, 1, none⟩) (Kd.S_far (p := ⟨gb173, 0, none⟩) (Kd.S_types HO_6.out BK173.out (by decide)) (fun _ hk => hk.2) (.int .i64 t171)) (fun _ hk => hk.2) (.int .i64 t172)) (fun _ hk => hk.1.2)))⟩; have n1_ : Aside0 (Kd.R k59 59 w27 w.heap.size (fun _ => True) v168 t167) := ⟨(by rw [hw]; exact (by refine fR (h := ?_); exact Kd.R_mono (Kd.R_far (p := ⟨gb173, 1, none⟩) (Kd.R_far (p := ⟨gb173, 0, none⟩) (Kd.R_types HO169.out BK173.out (by decide)) (fun _ hk => hk.2) (.int .i64 t171)) (fun _ hk => hk.2) (.int .i64 t172)) (fun _ hk => trivial)))⟩; have n2_ : Aside0 (w27.heap[gb162]? = some (.cells #[.int .i64 x163000_1, .int .i64 x163001_1] 54 (0, 0))) := ⟨(by rw [hw]; exact (by refine fB (h := ?_); refine blk_far ?_ NB162_173.out _; refine fB (h := ?_); refine blk_far ?_ NB162_173.out _; refine fB (h := ?_); exact BK162.out))⟩; have n3_ : Aside0 (w27.heap[gb166]? = some (.cells #[.int .i64 t163, .int .i64 t164] 54 (0, 0))) := ⟨(by rw [hw]; exact (by refine fB (h := ?_); refine blk_far ?_ NB166_173.out _; refine fB (h := ?_); refine blk_far ?_ NB166_173.out _; refine fB (h := ?_); exact BK166.out))⟩; have n4_ : Aside0 (w27.heap[gb173]? = some (.cells #[.int .i64 t171, .int .i64 t172] 54 (0, 0))) := ⟨(by rw [hw]; exact (by refine fB (h := ?_); refine blk_put (cs := #[.int .i64 t171, .int .i64 0]) ?_ 1 _ rfl; refine fB (h := ?_); refine blk_put (cs := #[.int .i64 0, .int .i64 0]) ?_ 0 _ rfl; refine fB (h := ?_); exact BK173.out))⟩; have n5_ : Aside0 (Below w.heap.size w w27) := ⟨(by rw [hw]; exact (fW HB.out))⟩; clear hw; clear HO_6; clear HO169; clear BK162; clear BK166; clear BK173; clear HB; have HO_6 := n0_; have HO169 := n1_; have BK162 := n2_; have BK166 := n3_; have BK173 := n4_; have HB := n5_; clear n0_ n1_ n2_ n3_ n4_ n5_; have hcz28_0 : w27.cell? ⟨gb173, 0, none⟩ = some (.int .i64 t171) := (blk_cell BK173.out 0).trans rfl; have hcz28_1 : w27.cell? ⟨gb173, 1, none⟩ = some (.int .i64 t172) := (blk_cell BK173.out 1).trans rfl; have hfz28_0 := blk_frozen BK173.out 0; have hfz28_1 := blk_frozen BK173.out 1; obtain ⟨Ao30, co30, eo30⟩ := Kd.R_slice HO169.out; subst eo30) | ((with_reducible refine gate_builtin (b := .append) (xs := #[.tmp 33, .tmp 35]) rfl ?_); at_builtin; refine Kd.S_append (Kd.slice 59 k59) (w0 := w) w.heap.size rfl (.tmp 33) (.tmp 35) 52 57 (.slice none 0 0) 24 rfl Tryd.underlying52 info57 rfl (by decide) (by omega) u6 x6_1 t167 [.slice Ao30 t167.length co30] (fun _ => True) (fun k_ => some k_ = (.slice Ao30 t167.length co30 : Value).ownBlock) rfl rfl ?aP (fun k_ hk_ => ((Kd.R_mono (ok' := fun k_ => ((fun _ => True)) k_ ∧ some k_ ≠ (u6 : Value).ownBlock) (Kd.R_apart' (HO169.out) (Kd.S_typed HO_6.out) (by decide)) (fun k_ hk => ⟨trivial, hk.2⟩))).1 k_ hk_.symm) ?aF ?aO ?aB ?aS ?aL ?_; (case aP => exact Kd.M_row (Kd.R_mono (Kd.R_tight rfl (Kd.R_mono (ok' := fun k_ => ((fun _ => True)) k_ ∧ some k_ ≠ (u6 : Value).ownBlock) (Kd.R_apart' (HO169.out) (Kd.S_typed HO_6.out) (by decide)) (fun k_ hk => ⟨trivial, hk.2⟩))) (fun _ h_ => h_))); (case aB => exact (fW HB.out)); (case aF => exact (fun _ _ => trivial)); (case aO => exact (by refine fS (h := ?_); exact Kd.S_mono HO_6.out (fun k_ hk => ⟨trivial, fun e_ => hk e_⟩))); (case aS => exact (below_size (fW HB.out))); (case aL => have := LMc21.out; omega); intro v175 w29 ho hb hg hat; rw [← Ny174.out] at ho; replace BK162 := Aside0.mk (blk_grown (g := gb162) (o := .cells #[.int .i64 x163000_1, .int .i64 x163001_1] 54 (0, 0)) (fB BK162.out) hg (Kd.S_ne HO_6.out BK162.out (by decide))); replace BK166 := Aside0.mk (blk_grown (g := gb166) (o := .cells #[.int .i64 t163, .int .i64 t164] 54 (0, 0)) (fB BK166.out) hg (Kd.S_ne HO_6.out BK166.out (by decide))); replace BK173 := Aside0.mk (blk_grown (g := gb173) (o := .cells #[.int .i64 t171, .int .i64 t172] 54 (0, 0)) (fB BK173.out) hg (Kd.S_ne HO_6.out BK173.out (by decide))); replace HB := Aside0.mk (hb); have HO176 := Aside0.mk (ho); clear HO_6 HO169; clear ho hb hg hat))
      go_roundg k1
      case measure => have := HK1.out; omega
      case rel => exact ⟨(y174), (t170), (x163000_1), (x163001_1), oR, H', ⟨by have := HK1.out; omega⟩, ⟨fS HO176.out⟩, ⟨fB BK162.out⟩, ⟨fB BK166.out⟩, ⟨fW HB.out⟩⟩
     ·rw [if_neg c20] at H
      have c20b0 : (t171 == 0) = false := beq_eq_false_iff_ne.mpr c20
      have c20b1 : (t171 != 0) = true := bne_iff_ne.mpr c20
      simp only [Option.some.injEq, Prod.mk.injEq] at H
      obtain ⟨rfl, rfl, rfl⟩ := H
      try go_wp2_with (first | ((with_reducible refine gate_callee (f := 57) rfl ?_); refine goesL_ (some 25) rfl rfl Tryd.func57 (by kernel_rfl) rfl #[.slice A0 l0.length c0, .int .i64 x7_1] rfl oA ?_; (with_reducible refine (csvr_record.calls k1 _ _ l0 x7_1 t167 t170 t171 t172 _ ?side1 ?side2 A19.out).mono ?_); (case side1 => exact fC (Kd.C_below HR0.out HB.out)); (case side2 => exact HC0.out); rintro e w31 ⟨v168, rfl, ho0, hb⟩; refine ⟨_, rfl, ?_⟩; replace HO_6 := Aside0.mk (Kd.S_elder' (fS HO_6.out) (Kd.R_base ho0) hb); have HO169 := Aside0.mk (Kd.R_lower ho0 (below_size (fW HB.out))); replace BK162 := Aside0.mk (blk_below (fB BK162.out) hb); replace BK166 := Aside0.mk (blk_below (fB BK166.out) hb); replace HB := Aside0.mk (below_step (fW HB.out) hb); (try clear hb); (try clear hb2); (try clear hk); (try clear hi); (try clear ho0)) | ((with_reducible refine gate_dst (N := 10) rfl ?_); refine bE (N := 10) (cs := #[.int .i64 0, .int .i64 0]) (t := 54) (h := ?_); intro gb173 hg w32 hbox hb; replace HO_6 := Aside0.mk (Kd.S_below (fS HO_6.out) hb); replace HO169 := Aside0.mk (Kd.R_below (fR HO169.out) hb); have BK173 := Aside0.mk (hbox); have GW173 := Aside0.mk (gE hg (fW HB.out)); have GE173 := GW173; replace HB := Aside0.mk (below_step (fW HB.out) hb); have NB162_173 := Aside0.mk ((by rw [hg]; exact Nat.ne_of_lt (blk_lt (g := gb162) (o := .cells #[.int .i64 x163000_1, .int .i64 x163001_1] 54 (0, 0)) (fB BK162.out)) : gb162 ≠ gb173)); have NB173_162 := Aside0.mk ((by rw [hg]; exact Nat.ne_of_gt (blk_lt (g := gb162) (o := .cells #[.int .i64 x163000_1, .int .i64 x163001_1] 54 (0, 0)) (fB BK162.out)) : gb173 ≠ gb162)); replace BK162 := Aside0.mk (blk_below (fB BK162.out) hb); have NB166_173 := Aside0.mk ((by rw [hg]; exact Nat.ne_of_lt (blk_lt (g := gb166) (o := .cells #[.int .i64 t163, .int .i64 t164] 54 (0, 0)) (fB BK166.out)) : gb166 ≠ gb173)); have NB173_166 := Aside0.mk ((by rw [hg]; exact Nat.ne_of_gt (blk_lt (g := gb166) (o := .cells #[.int .i64 t163, .int .i64 t164] 54 (0, 0)) (fB BK166.out)) : gb173 ≠ gb166)); replace BK166 := Aside0.mk (blk_below (fB BK166.out) hb); clear hb hbox hg; have hnb33 := NB173_162.out; have hnc33 := NB162_173.out; have hnb34 := NB173_166.out; have hnc34 := NB166_173.out; have hcz35_0 : w32.cell? ⟨gb173, 0, none⟩ = some (.int .i64 0) := (blk_cell BK173.out 0).trans rfl; have hcz35_1 : w32.cell? ⟨gb173, 1, none⟩ = some (.int .i64 0) := (blk_cell BK173.out 1).trans rfl; have hfz35_0 := blk_frozen BK173.out 0; have hfz35_1 := blk_frozen BK173.out 1))
      have n0_ : Aside0 (Kd.S (Kd.slice 59 k59) 57 ((w32.setCell ⟨gb173, 0, none⟩ (.int .i64 t171)).setCell ⟨gb173, 1, none⟩ (.int .i64 t172)) w.heap.size (fun k_ => some k_ ≠ (v168 : Value).ownBlock) u6 x6_1) := ⟨by refine fS (h := ?_); exact Kd.S_mono (Kd.S_far (p := ⟨gb173, 1, none⟩) (Kd.S_far (p := ⟨gb173, 0, none⟩) (Kd.S_types HO_6.out BK173.out (by decide)) (fun _ hk => hk.2) (.int .i64 t171)) (fun _ hk => hk.2) (.int .i64 t172)) (fun _ hk => hk.1.2)⟩
      have n1_ : Aside0 (Kd.R k59 59 ((w32.setCell ⟨gb173, 0, none⟩ (.int .i64 t171)).setCell ⟨gb173, 1, none⟩ (.int .i64 t172)) w.heap.size (fun _ => True) v168 t167) := ⟨by refine fR (h := ?_); exact Kd.R_mono (Kd.R_far (p := ⟨gb173, 1, none⟩) (Kd.R_far (p := ⟨gb173, 0, none⟩) (Kd.R_types HO169.out BK173.out (by decide)) (fun _ hk => hk.2) (.int .i64 t171)) (fun _ hk => hk.2) (.int .i64 t172)) (fun _ hk => trivial)⟩
      have n2_ : Aside0 (((w32.setCell ⟨gb173, 0, none⟩ (.int .i64 t171)).setCell ⟨gb173, 1, none⟩ (.int .i64 t172)).heap[gb162]? = some (.cells #[.int .i64 x163000_1, .int .i64 x163001_1] 54 (0, 0))) := ⟨by refine fB (h := ?_); refine blk_far ?_ NB162_173.out _; refine fB (h := ?_); refine blk_far ?_ NB162_173.out _; refine fB (h := ?_); exact BK162.out⟩
      have n3_ : Aside0 (((w32.setCell ⟨gb173, 0, none⟩ (.int .i64 t171)).setCell ⟨gb173, 1, none⟩ (.int .i64 t172)).heap[gb166]? = some (.cells #[.int .i64 t163, .int .i64 t164] 54 (0, 0))) := ⟨by refine fB (h := ?_); refine blk_far ?_ NB166_173.out _; refine fB (h := ?_); refine blk_far ?_ NB166_173.out _; refine fB (h := ?_); exact BK166.out⟩
      have n4_ : Aside0 (((w32.setCell ⟨gb173, 0, none⟩ (.int .i64 t171)).setCell ⟨gb173, 1, none⟩ (.int .i64 t172)).heap[gb173]? = some (.cells #[.int .i64 t171, .int .i64 t172] 54 (0, 0))) := ⟨by refine fB (h := ?_); refine blk_put (cs := #[.int .i64 t171, .int .i64 0]) ?_ 1 _ rfl; refine fB (h := ?_); refine blk_put (cs := #[.int .i64 0, .int .i64 0]) ?_ 0 _ rfl; refine fB (h := ?_); exact BK173.out⟩
      have n5_ : Aside0 (Below w.heap.size w ((w32.setCell ⟨gb173, 0, none⟩ (.int .i64 t171)).setCell ⟨gb173, 1, none⟩ (.int .i64 t172))) := ⟨fW HB.out⟩
      (try clear HO_6)
      (try clear HO169)
      (try clear BK162)
      (try clear BK166)
      (try clear BK173)
      (try clear HB)
      generalize ((w32.setCell ⟨gb173, 0, none⟩ (.int .i64 t171)).setCell ⟨gb173, 1, none⟩ (.int .i64 t172)) = w36 at n0_ n1_ n2_ n3_ n4_ n5_ ⊢
      have HO_6 := n0_
      have HO169 := n1_
      have BK162 := n2_
      have BK166 := n3_
      have BK173 := n4_
      have HB := n5_
      clear n0_ n1_ n2_ n3_ n4_ n5_
      have n0_ := Aside0.mk (Kd.S_drew HO_6.out)
      have n1_ := Aside0.mk (Kd.R_drew HO169.out)
      have n2_ := Aside0.mk (blk_drew BK162.out)
      have n3_ := Aside0.mk (blk_drew BK166.out)
      have n4_ := Aside0.mk (blk_drew BK173.out)
      have n5_ := Aside0.mk (below_drew1 HB.out)
      clear HO_6
      clear HO169
      clear BK162
      clear BK166
      clear BK173
      clear HB
      have HO_6 := n0_
      have HO169 := n1_
      have BK162 := n2_
      have BK166 := n3_
      have BK173 := n4_
      have HB := n5_
      clear n0_ n1_ n2_ n3_ n4_ n5_
      refine start_ (n := 3) (S := fun w' => w'.cell? ⟨gb173, 0, none⟩ = some (.int .i64 t171) ∧ w'.cell? ⟨gb173, 1, none⟩ = some (.int .i64 t172)) (ds := []) #[false, false, false] (by kernel_rfl) rfl rfl ⟨(blk_cell BK173.out 0).trans rfl, (blk_cell BK173.out 1).trans rfl⟩ (fun hHeld => ?_)
      generalize w36.drew = w37 at HO_6 HO169 BK162 BK166 BK173 HB hHeld ⊢
      refine pure_ (i := 1) (N := some 2) (v := ?_) (a' := ?_) #[false, true, false] rfl rfl (by kernel_rfl) (fun _ _ _ h => h) (Or.inl ⟨by rfl, ?_⟩) ?_ ?_
      rotate_left
      ·intro w'
       go_simp
       with_reducible rfl
      rotate_left
      ·refine sP (h := ?_)
       rfl
      refine take_ (i := 0) (N := some 32) (v := ?_) (a' := ?_) #[true, true, false] rfl rfl (by kernel_rfl) (fun _ _ _ h => h) (Or.inl ⟨by rfl, ?_⟩) hHeld ?_ ?_
      rotate_left
      ·rintro w' ⟨s0, s1⟩
       go_simp
       with_reducible rfl
      rotate_left
      ·refine sP (h := ?_)
       rfl
      refine one_ (i := 2) (N := none) #[true, true, true] rfl rfl (by kernel_rfl) (by decide) (fun K hK => ?_)
      have hs38 : w37.cell? ⟨gb162, 0, none⟩ = some (.int .i64 x163000_1) := (blk_cell BK162.out 0).trans rfl
      have hfs38 := blk_frozen BK162.out 0
      have hns38_1 := NB166_162.out
      have hns38_2 := NB173_162.out
      have hms38_1 := NB162_166.out
      have hms38_2 := NB162_173.out
      have hs39 : w37.cell? ⟨gb162, 1, none⟩ = some (.int .i64 x163001_1) := (blk_cell BK162.out 1).trans rfl
      have hfs39 := blk_frozen BK162.out 1
      have hns39_1 := NB166_162.out
      have hns39_2 := NB173_162.out
      have hms39_1 := NB162_166.out
      have hms39_2 := NB162_173.out
      refine skip_ (w1 := ?_) (by rfl) rfl ?_ ?_
      rotate_left
      ·go_simp
       rfl
      refine hK.out _ _ ⟨((cell_far (p := ⟨gb162, _, none⟩) NB173_162.out _).trans (((cell_far (p := ⟨gb162, _, none⟩) NB173_162.out _).trans (hHeld.1)))), ((cell_far (p := ⟨gb162, _, none⟩) NB173_162.out _).trans (((cell_far (p := ⟨gb162, _, none⟩) NB173_162.out _).trans (hHeld.2))))⟩ (fun hHeld => ?_)
      clear hK K
      refine done_ (by kernel_rfl) ?_
      try go_wp2
      refine bodyPost_ret (results_tc rfl _ _ gb162 54 #[.int .i64 t171, .int .i64 t172] (0, 0) _ rfl (by refine fB (h := ?_); refine blk_put (cs := #[.int .i64 t171, .int .i64 x163001_1]) ?_ 1 _ rfl; refine fB (h := ?_); refine blk_put (cs := #[.int .i64 x163000_1, .int .i64 x163001_1]) ?_ 0 _ rfl; refine fB (h := ?_); exact BK162.out) Tryd.underlying54 rfl (by kernel_rfl)) rfl ?_
      exact ⟨_, oE, by first | exact Kd.S_nil _ _ _ _ _ | exact Kd.N_nil _ _ _ _ _ | exact Kd.V_nil _ _ _ _ _ | exact Kd.Q_nil _ _ _ _ _ | exact Kd.R_nil _ _ _ _ _, fW HB.out⟩
    ·rw [if_neg c18] at H
     have c18b0 := decide_eq_false c18
     clear c18
     simp only [Option.some.injEq, Prod.mk.injEq] at H
     obtain ⟨rfl, rfl, rfl⟩ := H
     have hnb40 := NB162_166.out
     have hnc40 := NB166_162.out
     have hcz41_0 : wr.cell? ⟨gb162, 0, none⟩ = some (.int .i64 x163000_1) := (blk_cell BK162.out 0).trans rfl
     have hcz41_1 : wr.cell? ⟨gb162, 1, none⟩ = some (.int .i64 x163001_1) := (blk_cell BK162.out 1).trans rfl
     have hfz41_0 := blk_frozen BK162.out 0
     have hfz41_1 := blk_frozen BK162.out 1
     go_wp2
     refine bodyPost_ret (results_tc rfl _ _ gb162 54 #[.int .i64 0, .int .i64 0] (0, 0) _ rfl (by refine fB (h := ?_); refine blk_put (cs := #[.int .i64 0, .int .i64 x163001_1]) ?_ 1 _ rfl; refine fB (h := ?_); refine blk_put (cs := #[.int .i64 x163000_1, .int .i64 x163001_1]) ?_ 0 _ rfl; refine fB (h := ?_); exact BK162.out) Tryd.underlying54 rfl (by kernel_rfl)) rfl ?_
     exact ⟨_, oE, by refine fS (h := ?_); exact Kd.S_mono (Kd.S_far (p := ⟨gb162, 1, none⟩) (Kd.S_far (p := ⟨gb162, 0, none⟩) (Kd.S_types HO_6.out BK162.out (by decide)) (fun _ hk => hk.2) (.int .i64 0)) (fun _ hk => hk.2) (.int .i64 0)) (fun _ hk => trivial), fW HB.out⟩

/-! ### strings_Builder_WriteByte: function 61 (a contract of ours) -/
theorem strings_Builder_WriteByte.calls {d : Kd Int} {w w0 : World} {base : Nat} {ok' : Nat → Prop} {v : Value} {x : List Int} (ok : Nat → Prop) (hok : ∀ k, base ≤ k → ok k) (c : Int) (hc : 0 ≤ c ∧ c < 256) (hl : x.length + 1 ≤ 140737488355328) (h : Kd.B d 93 w base ok' v x) (hb : Below base w0 w) (hs : base ≤ w.heap.size) :
    Calls Tryd.prog 61 #[v, .int .u8 c] w fun e w' => e = .returned (.nilIface) ∧ Kd.B d 93 w' base ok v (x ++ [c]) ∧ Below base w0 w' ∧ Kd.Wrote 93 v w w' := by
  obtain ⟨b, rfl, hB⟩ := Kd.B_open h
  refine (Tryd.Builder_WriteByte_k base b _ c w hB (by simpa using hl) hs).mono ?_
  rintro e w' ⟨rfl, h1, h2, h3⟩
  exact ⟨rfl, Kd.B_closeWriteByte h hok hc h1, hb.trans h2, Kd.wrote_of h rfl h3⟩

/-! ### stringslite_IndexByte: function 76 (a contract of ours) -/
def stringslite_IndexByte.f (a0 : ByteArray) (a1 : Int) : Option Int := some (Lib.indexByte a0.data.toList a1.toNat.toUInt8)
set_option maxHeartbeats 1000000 in
set_option maxRecDepth 100000 in
theorem stringslite_IndexByte.calls (a0 : ByteArray) (a1 : Int) (r : Int) (w : World) (h : stringslite_IndexByte.f a0 a1 = some r) :
    Calls Tryd.prog 76 #[.string a0, .int .u8 a1] w fun e w' => e = .returned (.int .i64 r) ∧ Drawn0 w w' := by
  injection h with h
  subst h
  go_enter Tryd.func76, Tryd.ntmps76
  go_wp2
  rw [run_callFunc_extern Tryd.func90 (by kernel_rfl) (by kernel_rfl) (by kernel_rfl) (e := Extern.BytealgIndexByte.indexByte) (by kernel_rfl), Lib.run_indexByteString]
  simp only [Result.andThen]
  rw [Oper.upon_value]
  go_wp2
  go_ret
  exact ⟨rfl, Drawn0.refl _⟩

/-! ### strings_IndexByte: function 62 -/
def strings_IndexByte.f (a0 : ByteArray) (a1 : Int) : Option (Int) := (stringslite_IndexByte.f a0 a1).bind fun t177 => (some t177)
set_option maxHeartbeats 8000000 in
set_option maxRecDepth 100000 in
theorem strings_IndexByte.calls (a0 : ByteArray) (a1 : Int) (r : Int) (w : World) (h : strings_IndexByte.f a0 a1 = some r) :
  Calls Tryd.prog 62 #[.string a0, .int .u8 a1] w fun e w' => e = .returned (.int .i64 r) ∧ Drawn0 w w' := by
 have H : ((stringslite_IndexByte.f a0 a1).bind fun t177 => (some t177)) = some r := h
 clear h
 obtain ⟨t177, A30, H⟩ := bS H
 have A3 := Aside0.mk A30
 clear A30
 obtain rfl := Option.some.inj H
 go_enter Tryd.func62, Tryd.ntmps62
 go_wp2_with (first | ((with_reducible refine gate_callee (f := 76) rfl ?_); refine goesL_ (some 7) rfl rfl Tryd.func76 (by kernel_rfl) rfl #[.string a0, .int .u8 a1] rfl oA ?_; (with_reducible refine (stringslite_IndexByte.calls a0 a1 t177 _ A3.out).mono ?_); rintro e w' ⟨rfl, ⟨nd, rfl⟩⟩; refine ⟨_, rfl, ?_⟩))
 go_ret
 exact ⟨by first | rfl | (simp only [i64_w]; done) | (simp; done) | (simp [*]; done), by repeat (first | exact Drawn0.refl _ | apply Drawn0.step)⟩

/-! ### strings_ReplaceAll: function 63 (a contract of ours) -/
def strings_ReplaceAll.f (a0 a1 a2 : ByteArray) : Option ByteArray := if 1 ≤ a1.size then (if a0.size < 4294967281 then (if a0.size + Lib.countB a0 a1 * a2.size ≤ 140737488355328 then some ⟨(Lib.replaceAll a0.data.toList a1.data.toList a2.data.toList).toArray⟩ else none) else none) else none
theorem strings_ReplaceAll.calls (a0 a1 a2 : ByteArray) (r : ByteArray) (w : World) (hMax : XM.Tabs w) (h : strings_ReplaceAll.f a0 a1 a2 = some r) :
    Calls Tryd.prog 63 #[.string a0, .string a1, .string a2] w fun e w' => e = .returned (.string r) ∧ Below w.heap.size w w' := by
  obtain ⟨m, hm⟩ := hMax
  unfold strings_ReplaceAll.f at h
  by_cases h0 : 1 ≤ a1.size
  · rw [if_pos h0] at h
    by_cases h1 : a0.size < 4294967281
    · rw [if_pos h1] at h
      by_cases h2 : a0.size + Lib.countB a0 a1 * a2.size ≤ 140737488355328
      · rw [if_pos h2] at h
        injection h with h
        subst h
        exact Tryd.strings_ReplaceAll a0 a1 a2 m w h1 hm h0 h2
      · rw [if_neg h2] at h
        cases h
    · rw [if_neg h1] at h
      cases h
  · rw [if_neg h0] at h
    cases h

/-! ### strings_Builder_WriteString: function 64 (a contract of ours) -/
theorem strings_Builder_WriteString.calls {d : Kd Int} {w w0 : World} {base : Nat} {ok' : Nat → Prop} {v : Value} {x : List Int} (ok : Nat → Prop) (hok : ∀ k, base ≤ k → ok k) (s : ByteArray) (hl : x.length + s.size ≤ 140737488355328) (h : Kd.B d 93 w base ok' v x) (hb : Below base w0 w) (hs : base ≤ w.heap.size) :
    Calls Tryd.prog 64 #[v, .string s] w fun e w' => e = .returned (.tuple #[.int .i64 s.size, .nilIface]) ∧ Kd.B d 93 w' base ok v (x ++ bytesOf s) ∧ Below base w0 w' ∧ Kd.Wrote 93 v w w' := by
  obtain ⟨b, rfl, hB⟩ := Kd.B_open h
  refine (Tryd.Builder_WriteString_k base b _ s w hB (by simpa using hl) hs).mono ?_
  rintro e w' ⟨rfl, h1, h2, h3⟩
  exact ⟨rfl, Kd.B_closeWriteString h hok s h1, hb.trans h2, Kd.wrote_of h rfl h3⟩

/-! ### strings_Builder_String: function 65 (a contract of ours) -/
theorem strings_Builder_String.calls {d : Kd Int} {w w0 : World} {base : Nat} {ok' : Nat → Prop} {v : Value} {x : List Int} (ok : Nat → Prop) (hok : ∀ k, base ≤ k → ok k)  (h : Kd.B d 93 w base ok' v x) (hb : Below base w0 w) (hs : base ≤ w.heap.size) :
    Calls Tryd.prog 65 #[v] w fun e w' => e = .returned (.string (strOfNums x)) ∧ Kd.B d 93 w' base ok v (x) ∧ Below base w0 w' ∧ Kd.Wrote 93 v w w' := by
  obtain ⟨b, rfl, hB⟩ := Kd.B_open h
  refine (Tryd.Builder_String_any_k base b _ w (Kd.B_bytes h hB) hs).mono ?_
  rintro e w' ⟨rfl, h1, h2, h3⟩
  exact ⟨rfl, Kd.B_closeString h hok h1, hb.trans h2, Kd.wrote_of h rfl h3⟩

end Go.Proofs.YtcgchblljhbdaaaDoor.C
