-- Printed by this session's own program (wip/xprint) out of the translation. Lean checks it.
import Derived.Test.YtnkcffmklomfhaaYx0
import Derived.Test.YtnkcffmklomfhaaYx3
namespace Go.Proofs.Ytnkcffmklomfhaa.Y
open Go.Proofs.Ytnkcffmklomfhaa
open Go.RowKit Go.Proofs.YtnkcffmklomfhaaW.PrintWords Go.Proofs.YtnkcffmklomfhaaW.PrintLast Go.Proofs.YtnkcffmklomfhaaW.PrintMore
attribute [local go_sem] max2_int min2_int max_two min_two max_three min_three max_four min_four   -- for this text's walks alone
set_option linter.unusedVariables false
set_option linter.unusedSimpArgs false

/-! ### glebelaw7_ScanParts: function 13 -/
mutual
def glebelaw7_ScanParts.l0 : Nat → List Int → List (S33) → Int → Int → Int → Option (Bool)
  | 0, _, _, _, _, _ => none
  | k + 1, x0, x3, x4, x18, x19 => if x19 < x18 then (if 0 ≤ x19 then (if x19 < (x3.length : Int) then ((scan_Where.f k x0 ((rd_T33 x3 x19).f2)).bind fun bt248 => (if ((rd_T33 x3 x19).f2) = x4 then (if bt248.1 = (wrap64 (x19 + 1)) then (if bt248.2 = 1 then (if (wrap64 (((rd_T33 x3 x19).f2) + (((rd_T33 x3 x19).f1).size : Int))) > (x0.length : Int) then (glebelaw7_ScanParts.j1 k x0 x3 x19 bt248.1 (wrap64 (((rd_T33 x3 x19).f2) + (((rd_T33 x3 x19).f1).size : Int))) x18 x19 true) else (if 0 ≤ x4 then (if x4 ≤ (wrap64 (((rd_T33 x3 x19).f2) + (((rd_T33 x3 x19).f1).size : Int))) then (if (wrap64 (((rd_T33 x3 x19).f2) + (((rd_T33 x3 x19).f1).size : Int))) ≤ (x0.length : Int) then (glebelaw7_ScanParts.j1 k x0 x3 x19 bt248.1 (wrap64 (((rd_T33 x3 x19).f2) + (((rd_T33 x3 x19).f1).size : Int))) x18 x19 ((strOfNums ((x0.take ((wrap64 (((rd_T33 x3 x19).f2) + (((rd_T33 x3 x19).f1).size : Int))) : Int).toNat).drop (x4 : Int).toNat)).toList != ((rd_T33 x3 x19).f1).toList)) else (none)) else (none)) else (none))) else (glebelaw7_ScanParts.j1 k x0 x3 x19 bt248.1 (wrap64 (((rd_T33 x3 x19).f2) + (((rd_T33 x3 x19).f1).size : Int))) x18 x19 true)) else (glebelaw7_ScanParts.j1 k x0 x3 x19 bt248.1 (wrap64 (((rd_T33 x3 x19).f2) + (((rd_T33 x3 x19).f1).size : Int))) x18 x19 true)) else (glebelaw7_ScanParts.j1 k x0 x3 x19 bt248.1 (wrap64 (((rd_T33 x3 x19).f2) + (((rd_T33 x3 x19).f1).size : Int))) x18 x19 true))) else (none)) else (none)) else (if x4 ≥ (x0.length : Int) then ((glebelaw7_awake.f k).bind fun t246 => (some t246)) else (none))
def glebelaw7_ScanParts.j1 : Nat → List Int → List (S33) → Int → Int → Int → Int → Int → Bool → Option (Bool)
  | 0, _, _, _, _, _, _, _, _ => none
  | k + 1, x0, x3, x5, x6, x8, x18, x19, x79 => if x79 = true then (none) else ((scan_Where.f k x0 x8).bind fun bt255 => (if bt255.1 = x6 then (if 0 ≤ x5 then (if x5 < (x3.length : Int) then (glebelaw7_ScanParts.j2 k x0 x3 x8 x18 x19 (bt255.2 != (wrap64 ((((rd_T33 x3 x5).f1).size : Int) + 1)))) else (none)) else (none)) else (glebelaw7_ScanParts.j2 k x0 x3 x8 x18 x19 true)))
def glebelaw7_ScanParts.j2 : Nat → List Int → List (S33) → Int → Int → Int → Bool → Option (Bool)
  | 0, _, _, _, _, _, _ => none
  | k + 1, x0, x3, x8, x18, x19, x99 => if x99 = true then (none) else (if x8 < (x0.length : Int) then (if 0 ≤ x8 then (if (rd x0 x8) = 13 then (if (wrap64 (x8 + 1)) < (x0.length : Int) then (if 0 ≤ (wrap64 (x8 + 1)) then (glebelaw7_ScanParts.j3 k x0 x3 x8 x18 x19 ((rd x0 (wrap64 (x8 + 1))) == 10)) else (none)) else (glebelaw7_ScanParts.j3 k x0 x3 x8 x18 x19 false)) else (glebelaw7_ScanParts.j3 k x0 x3 x8 x18 x19 false)) else (none)) else (glebelaw7_ScanParts.j3 k x0 x3 x8 x18 x19 false))
def glebelaw7_ScanParts.j3 : Nat → List Int → List (S33) → Int → Int → Int → Bool → Option (Bool)
  | 0, _, _, _, _, _, _ => none
  | k + 1, x0, x3, x8, x18, x19, x125 => if x125 = true then (if (wrap64 (x8 + 1)) < (x0.length : Int) then (if 0 ≤ (wrap64 (x8 + 1)) then (if (rd x0 (wrap64 (x8 + 1))) = 10 then (glebelaw7_ScanParts.l0 k x0 x3 (wrap64 ((wrap64 (x8 + 1)) + 1)) x18 (wrap64 (x19 + 1))) else (none)) else (none)) else (glebelaw7_ScanParts.l0 k x0 x3 (wrap64 ((wrap64 (x8 + 1)) + 1)) x18 (wrap64 (x19 + 1)))) else (if x8 < (x0.length : Int) then (if 0 ≤ x8 then (if (rd x0 x8) = 10 then (glebelaw7_ScanParts.l0 k x0 x3 (wrap64 (x8 + 1)) x18 (wrap64 (x19 + 1))) else (none)) else (none)) else (glebelaw7_ScanParts.l0 k x0 x3 (wrap64 (x8 + 1)) x18 (wrap64 (x19 + 1))))
end
def glebelaw7_ScanParts.f (k : Nat) (l0 : List Int) : Option (Bool) := if (l0.length : Int) > 500 then ((glebelaw7_awake.f k).bind fun t242 => (some t242)) else ((scan_Lines.f k l0).bind fun t243 => (glebelaw7_ScanParts.l0 k l0 t243 0 (t243.length : Int) 0))
theorem glebelaw7_ScanParts.mono_l : ∀ k, (∀ y0 y1 y2 y3 y4, LeO (glebelaw7_ScanParts.l0 k y0 y1 y2 y3 y4) (glebelaw7_ScanParts.l0 (k + 1) y0 y1 y2 y3 y4)) ∧ (∀ y0 y1 y2 y3 y4 y5 y6 y7, LeO (glebelaw7_ScanParts.j1 k y0 y1 y2 y3 y4 y5 y6 y7) (glebelaw7_ScanParts.j1 (k + 1) y0 y1 y2 y3 y4 y5 y6 y7)) ∧ (∀ y0 y1 y2 y3 y4 y5, LeO (glebelaw7_ScanParts.j2 k y0 y1 y2 y3 y4 y5) (glebelaw7_ScanParts.j2 (k + 1) y0 y1 y2 y3 y4 y5)) ∧ (∀ y0 y1 y2 y3 y4 y5, LeO (glebelaw7_ScanParts.j3 k y0 y1 y2 y3 y4 y5) (glebelaw7_ScanParts.j3 (k + 1) y0 y1 y2 y3 y4 y5))
  | 0 => ⟨fun _ _ _ _ _ r h => by simp [glebelaw7_ScanParts.l0] at h, fun _ _ _ _ _ _ _ _ r h => by simp [glebelaw7_ScanParts.j1] at h, fun _ _ _ _ _ _ r h => by simp [glebelaw7_ScanParts.j2] at h, fun _ _ _ _ _ _ r h => by simp [glebelaw7_ScanParts.j3] at h⟩
  | k + 1 => by
    obtain ⟨ih0, ih1, ih2, ih3⟩ := glebelaw7_ScanParts.mono_l k
    refine ⟨?_, ?_, ?_, ?_⟩
    · intro y0 y1 y2 y3 y4
      unfold glebelaw7_ScanParts.l0
      repeat' first
      | (with_reducible exact ih0 _ _ _ _ _)
      | (with_reducible exact ih1 _ _ _ _ _ _ _ _)
      | (with_reducible exact ih2 _ _ _ _ _ _)
      | (with_reducible exact ih3 _ _ _ _ _ _)
      | (with_reducible exact glebelaw7_awake.mono _)
      | (with_reducible exact scan_Lines.mono _ _)
      | (with_reducible exact scan_Where.mono _ _ _)
      | (with_reducible exact LeO.refl _)
      | (with_reducible exact LeO.none _)
      | (with_reducible refine LeO.ite ?_ ?_)
      | (with_reducible refine LeO.bind ?_ (fun _ => ?_))
      | exact ih0 _ _ _ _ _
      | exact ih1 _ _ _ _ _ _ _ _
      | exact ih2 _ _ _ _ _ _
      | exact ih3 _ _ _ _ _ _
      | exact glebelaw7_awake.mono _
      | exact scan_Lines.mono _ _
      | exact scan_Where.mono _ _ _
      | exact LeO.none _
      | refine LeO.ite ?_ ?_
      | refine LeO.bind ?_ (fun _ => ?_)
    · intro y0 y1 y2 y3 y4 y5 y6 y7
      unfold glebelaw7_ScanParts.j1
      repeat' first
      | (with_reducible exact ih0 _ _ _ _ _)
      | (with_reducible exact ih1 _ _ _ _ _ _ _ _)
      | (with_reducible exact ih2 _ _ _ _ _ _)
      | (with_reducible exact ih3 _ _ _ _ _ _)
      | (with_reducible exact glebelaw7_awake.mono _)
      | (with_reducible exact scan_Lines.mono _ _)
      | (with_reducible exact scan_Where.mono _ _ _)
      | (with_reducible exact LeO.refl _)
      | (with_reducible exact LeO.none _)
      | (with_reducible refine LeO.ite ?_ ?_)
      | (with_reducible refine LeO.bind ?_ (fun _ => ?_))
      | exact ih0 _ _ _ _ _
      | exact ih1 _ _ _ _ _ _ _ _
      | exact ih2 _ _ _ _ _ _
      | exact ih3 _ _ _ _ _ _
      | exact glebelaw7_awake.mono _
      | exact scan_Lines.mono _ _
      | exact scan_Where.mono _ _ _
      | exact LeO.none _
      | refine LeO.ite ?_ ?_
      | refine LeO.bind ?_ (fun _ => ?_)
    · intro y0 y1 y2 y3 y4 y5
      unfold glebelaw7_ScanParts.j2
      repeat' first
      | (with_reducible exact ih0 _ _ _ _ _)
      | (with_reducible exact ih1 _ _ _ _ _ _ _ _)
      | (with_reducible exact ih2 _ _ _ _ _ _)
      | (with_reducible exact ih3 _ _ _ _ _ _)
      | (with_reducible exact glebelaw7_awake.mono _)
      | (with_reducible exact scan_Lines.mono _ _)
      | (with_reducible exact scan_Where.mono _ _ _)
      | (with_reducible exact LeO.refl _)
      | (with_reducible exact LeO.none _)
      | (with_reducible refine LeO.ite ?_ ?_)
      | (with_reducible refine LeO.bind ?_ (fun _ => ?_))
      | exact ih0 _ _ _ _ _
      | exact ih1 _ _ _ _ _ _ _ _
      | exact ih2 _ _ _ _ _ _
      | exact ih3 _ _ _ _ _ _
      | exact glebelaw7_awake.mono _
      | exact scan_Lines.mono _ _
      | exact scan_Where.mono _ _ _
      | exact LeO.none _
      | refine LeO.ite ?_ ?_
      | refine LeO.bind ?_ (fun _ => ?_)
    · intro y0 y1 y2 y3 y4 y5
      unfold glebelaw7_ScanParts.j3
      repeat' first
      | (with_reducible exact ih0 _ _ _ _ _)
      | (with_reducible exact ih1 _ _ _ _ _ _ _ _)
      | (with_reducible exact ih2 _ _ _ _ _ _)
      | (with_reducible exact ih3 _ _ _ _ _ _)
      | (with_reducible exact glebelaw7_awake.mono _)
      | (with_reducible exact scan_Lines.mono _ _)
      | (with_reducible exact scan_Where.mono _ _ _)
      | (with_reducible exact LeO.refl _)
      | (with_reducible exact LeO.none _)
      | (with_reducible refine LeO.ite ?_ ?_)
      | (with_reducible refine LeO.bind ?_ (fun _ => ?_))
      | exact ih0 _ _ _ _ _
      | exact ih1 _ _ _ _ _ _ _ _
      | exact ih2 _ _ _ _ _ _
      | exact ih3 _ _ _ _ _ _
      | exact glebelaw7_awake.mono _
      | exact scan_Lines.mono _ _
      | exact scan_Where.mono _ _ _
      | exact LeO.none _
      | refine LeO.ite ?_ ?_
      | refine LeO.bind ?_ (fun _ => ?_)
theorem glebelaw7_ScanParts.mono : ∀ a0 k, LeO (glebelaw7_ScanParts.f k a0) (glebelaw7_ScanParts.f (k + 1) a0) := by
  intro a0 k
  obtain ⟨ih0, ih1, ih2, ih3⟩ := glebelaw7_ScanParts.mono_l k
  unfold glebelaw7_ScanParts.f
  repeat' first
      | (with_reducible exact ih0 _ _ _ _ _)
      | (with_reducible exact ih1 _ _ _ _ _ _ _ _)
      | (with_reducible exact ih2 _ _ _ _ _ _)
      | (with_reducible exact ih3 _ _ _ _ _ _)
      | (with_reducible exact glebelaw7_awake.mono _)
      | (with_reducible exact scan_Lines.mono _ _)
      | (with_reducible exact scan_Where.mono _ _ _)
      | (with_reducible exact LeO.refl _)
      | (with_reducible exact LeO.none _)
      | (with_reducible refine LeO.ite ?_ ?_)
      | (with_reducible refine LeO.bind ?_ (fun _ => ?_))
      | exact ih0 _ _ _ _ _
      | exact ih1 _ _ _ _ _ _ _ _
      | exact ih2 _ _ _ _ _ _
      | exact ih3 _ _ _ _ _ _
      | exact glebelaw7_awake.mono _
      | exact scan_Lines.mono _ _
      | exact scan_Where.mono _ _ _
      | exact LeO.none _
      | refine LeO.ite ?_ ?_
      | refine LeO.bind ?_ (fun _ => ?_)
set_option maxHeartbeats 8000000 in
set_option maxRecDepth 100000 in
theorem glebelaw7_ScanParts.calls (k : Nat) (A0 : Option Addr) (c0 : Nat) (l0 : List Int) (r : Bool) (w : World) (hr0 : Kd.C (Kd.int .u8) w A0 l0.length l0) (hc0 : l0.length ≤ c0) (h : glebelaw7_ScanParts.f k l0 = some r) :
    Calls Try.prog 13 #[.slice A0 l0.length c0] w fun e w' => e = .returned (.bool r) ∧ Below w.heap.size w w' := by
  have HR0 := Aside0.mk hr0
  have HC0 := Aside0.mk hc0
  clear hr0 hc0
  have HB := Aside0.mk (Below.refl w.heap.size w)
  have H : (if (l0.length : Int) > 500 then ((glebelaw7_awake.f k).bind fun t242 => (some t242)) else ((scan_Lines.f k l0).bind fun t243 => (glebelaw7_ScanParts.l0 k l0 t243 0 (t243.length : Int) 0))) = some r := h
  clear h
  by_cases c2 : (l0.length : Int) > 500
  · rw [if_pos c2] at H
    have c2b0 : decide (500 < (l0.length : Int)) = true := decide_eq_true c2
    have c2b1 : decide (500 < l0.length) = true := decide_eq_true (by omega)
    clear c2
    replace H := Option.bind_eq_some_iff.mp H
    obtain ⟨t242, A30, H⟩ := H
    replace H : (some t242) = some r := H
    have A3 := Aside0.mk A30
    clear A30
    obtain rfl := Option.some.inj H
    go_enter Try.func13, Try.ntmps13
    go_wp2_with (first | (go_at_call 28; (with_reducible refine (glebelaw7_awake.calls k  t242 _ A3.out).mono ?_); rintro e w4 ⟨rfl, hb⟩; have n0_ := Aside0.mk (below_step (by repeat (first | (with_reducible first | exact HB.out | apply below_alloc | apply pw_below_drewN | apply below_drew1) | exact HB.out)) hb); clear HB; have HB := n0_; clear n0_; (try clear hb); (try clear hb2); (try clear hk); (try clear hi)))
    repeat (go_quiet (first | (go_at_call 28; (with_reducible refine (glebelaw7_awake.calls k  t242 _ A3.out).mono ?_); rintro e w4 ⟨rfl, hb⟩; have n0_ := Aside0.mk (below_step (by repeat (first | (with_reducible first | exact HB.out | apply below_alloc | apply pw_below_drewN | apply below_drew1) | exact HB.out)) hb); clear HB; have HB := n0_; clear n0_; (try clear hb); (try clear hb2); (try clear hk); (try clear hi))); try go_wp2_with (first | (go_at_call 28; (with_reducible refine (glebelaw7_awake.calls k  t242 _ A3.out).mono ?_); rintro e w4 ⟨rfl, hb⟩; have n0_ := Aside0.mk (below_step (by repeat (first | (with_reducible first | exact HB.out | apply below_alloc | apply pw_below_drewN | apply below_drew1) | exact HB.out)) hb); clear HB; have HB := n0_; clear n0_; (try clear hb); (try clear hb2); (try clear hk); (try clear hi))))
    go_ret
    exact ⟨by first | rfl | (simp [errW_none, errW_some] <;> rfl) | (simp [*, errW_none, errW_some] <;> rfl), by repeat (first | (with_reducible first | exact HB.out | apply below_alloc | apply pw_below_drewN | apply below_drew1) | exact HB.out)⟩
  · rw [if_neg c2] at H
    have c2b0 : decide (500 < (l0.length : Int)) = false := decide_eq_false c2
    have c2b1 : decide (500 < l0.length) = false := decide_eq_false (by omega)
    clear c2
    replace H := Option.bind_eq_some_iff.mp H
    obtain ⟨t243, A50, H⟩ := H
    replace H : (glebelaw7_ScanParts.l0 k l0 t243 0 (t243.length : Int) 0) = some r := H
    have A5 := Aside0.mk A50
    clear A50
    have H' := Aside0.mk H
    clear H
    go_enter Try.func13, Try.ntmps13
    go_wp2_with (first | (go_at_call 27; (with_reducible refine (scan_Lines.calls k _ _ l0 t243 _ ?side1 ?side2 A5.out).mono ?_); (case side1 => repeat (first | exact HR0.out | (with_reducible refine Kd.C_alloc ?_ _) | (with_reducible refine Kd.C_drewN ?_ _) | (with_reducible refine Kd.C_drew ?_))); (case side2 => exact HC0.out); rintro e w6 ⟨v244, rfl, ho0, hb⟩; have n0_ := Aside0.mk (Kd.R_lower ho0 (below_size (by repeat (first | (with_reducible first | exact HB.out | apply below_alloc | apply pw_below_drewN | apply below_drew1) | exact HB.out)))); have n1_ := Aside0.mk (below_step (by repeat (first | (with_reducible first | exact HB.out | apply below_alloc | apply pw_below_drewN | apply below_drew1) | exact HB.out)) hb); clear HB; have HO245 := n0_; have HB := n1_; clear n0_ n1_; (try clear hb); (try clear hb2); (try clear hk); (try clear hi); (try clear ho0); obtain ⟨Ao7, co7, eo7⟩ := Kd.R_slice HO245.out; subst eo7))
    repeat (go_quiet (first | (go_at_call 27; (with_reducible refine (scan_Lines.calls k _ _ l0 t243 _ ?side1 ?side2 A5.out).mono ?_); (case side1 => repeat (first | exact HR0.out | (with_reducible refine Kd.C_alloc ?_ _) | (with_reducible refine Kd.C_drewN ?_ _) | (with_reducible refine Kd.C_drew ?_))); (case side2 => exact HC0.out); rintro e w6 ⟨v244, rfl, ho0, hb⟩; have n0_ := Aside0.mk (Kd.R_lower ho0 (below_size (by repeat (first | (with_reducible first | exact HB.out | apply below_alloc | apply pw_below_drewN | apply below_drew1) | exact HB.out)))); have n1_ := Aside0.mk (below_step (by repeat (first | (with_reducible first | exact HB.out | apply below_alloc | apply pw_below_drewN | apply below_drew1) | exact HB.out)) hb); clear HB; have HO245 := n0_; have HB := n1_; clear n0_ n1_; (try clear hb); (try clear hb2); (try clear hk); (try clear hi); (try clear ho0); obtain ⟨Ao7, co7, eo7⟩ := Kd.R_slice HO245.out; subst eo7)); try go_wp2_with (first | (go_at_call 27; (with_reducible refine (scan_Lines.calls k _ _ l0 t243 _ ?side1 ?side2 A5.out).mono ?_); (case side1 => repeat (first | exact HR0.out | (with_reducible refine Kd.C_alloc ?_ _) | (with_reducible refine Kd.C_drewN ?_ _) | (with_reducible refine Kd.C_drew ?_))); (case side2 => exact HC0.out); rintro e w6 ⟨v244, rfl, ho0, hb⟩; have n0_ := Aside0.mk (Kd.R_lower ho0 (below_size (by repeat (first | (with_reducible first | exact HB.out | apply below_alloc | apply pw_below_drewN | apply below_drew1) | exact HB.out)))); have n1_ := Aside0.mk (below_step (by repeat (first | (with_reducible first | exact HB.out | apply below_alloc | apply pw_below_drewN | apply below_drew1) | exact HB.out)) hb); clear HB; have HO245 := n0_; have HB := n1_; clear n0_ n1_; (try clear hb); (try clear hb2); (try clear hk); (try clear hi); (try clear ho0); obtain ⟨Ao7, co7, eo7⟩ := Kd.R_slice HO245.out; subst eo7)))
    go_loopg [4, 19] k (fun kq v4 v19 w' => ∃ (x4_1 : Int) (x19_1 : Int), v4 = .int .i64 x4_1 ∧ v19 = .int .i64 x19_1 ∧ Aside0 (glebelaw7_ScanParts.l0 kq l0 t243 x4_1 (t243.length : Int) x19_1 = some r) ∧ Aside0 (kq ≤ k) ∧ Aside0 (Kd.R k33 33 w' w.heap.size (fun _ => True) (.slice Ao7 t243.length co7) t243) ∧ Aside0 (Below w.heap.size w w'))
    case atStart => exact ⟨(0), (0), (by first | rfl | (simp; done) | (simp [*]; done)), (by first | rfl | (simp; done) | (simp [*]; done)), H', ⟨Nat.le_refl _⟩, ⟨by (with_reducible repeat (first | apply Kd.R_alloc | apply Kd.R_drewN | apply Kd.R_drew)); exact HO245.out⟩, ⟨by repeat (first | (with_reducible first | exact HB.out | apply below_alloc | apply pw_below_drewN | apply below_drew1) | exact HB.out)⟩⟩
    case round =>
      clear H'
      try clear c1
      try clear c2
      try clear c2b0
      try clear c2b1
      try clear p2
      obtain ⟨x4_1, x19_1, rfl, rfl, HA, HK1, HO_3, HB⟩ := hrel
      cases gk with
      | zero => exact absurd HA.out (by simp [glebelaw7_ScanParts.l0])
      | succ k1 =>
        have H := HA.out
        clear HA
        simp only [glebelaw7_ScanParts.l0] at H
        by_cases c8 : x19_1 < (t243.length : Int)
        · rw [if_pos c8] at H
          have c8b0 : decide (x19_1 < (t243.length : Int)) = true := decide_eq_true c8
          clear c8
          by_cases c9 : 0 ≤ x19_1
          · rw [if_pos c9] at H
            have c9b0 : decide (0 ≤ x19_1) = true := decide_eq_true c9
            clear c9
            by_cases c10 : x19_1 < (t243.length : Int)
            · rw [if_pos c10] at H
              have c10b0 : decide (x19_1 < (t243.length : Int)) = true := decide_eq_true c10
              clear c10
              replace H := Option.bind_eq_some_iff.mp H
              obtain ⟨⟨t248, t249⟩, A110, H⟩ := H
              replace H : (if ((rd_T33 t243 x19_1).f2) = x4_1 then (if t248 = (wrap64 (x19_1 + 1)) then (if t249 = 1 then (if (wrap64 (((rd_T33 t243 x19_1).f2) + (((rd_T33 t243 x19_1).f1).size : Int))) > (l0.length : Int) then (glebelaw7_ScanParts.j1 k1 l0 t243 x19_1 t248 (wrap64 (((rd_T33 t243 x19_1).f2) + (((rd_T33 t243 x19_1).f1).size : Int))) (t243.length : Int) x19_1 true) else (if 0 ≤ x4_1 then (if x4_1 ≤ (wrap64 (((rd_T33 t243 x19_1).f2) + (((rd_T33 t243 x19_1).f1).size : Int))) then (if (wrap64 (((rd_T33 t243 x19_1).f2) + (((rd_T33 t243 x19_1).f1).size : Int))) ≤ (l0.length : Int) then (glebelaw7_ScanParts.j1 k1 l0 t243 x19_1 t248 (wrap64 (((rd_T33 t243 x19_1).f2) + (((rd_T33 t243 x19_1).f1).size : Int))) (t243.length : Int) x19_1 ((strOfNums ((l0.take ((wrap64 (((rd_T33 t243 x19_1).f2) + (((rd_T33 t243 x19_1).f1).size : Int))) : Int).toNat).drop (x4_1 : Int).toNat)).toList != ((rd_T33 t243 x19_1).f1).toList)) else (none)) else (none)) else (none))) else (glebelaw7_ScanParts.j1 k1 l0 t243 x19_1 t248 (wrap64 (((rd_T33 t243 x19_1).f2) + (((rd_T33 t243 x19_1).f1).size : Int))) (t243.length : Int) x19_1 true)) else (glebelaw7_ScanParts.j1 k1 l0 t243 x19_1 t248 (wrap64 (((rd_T33 t243 x19_1).f2) + (((rd_T33 t243 x19_1).f1).size : Int))) (t243.length : Int) x19_1 true)) else (glebelaw7_ScanParts.j1 k1 l0 t243 x19_1 t248 (wrap64 (((rd_T33 t243 x19_1).f2) + (((rd_T33 t243 x19_1).f1).size : Int))) (t243.length : Int) x19_1 true)) = some r := H
              have A11 := Aside0.mk A110
              clear A110
              have HC12 := Aside0.mk H
              clear H
              have p247 : 0 ≤ (x19_1 : Int) := of_decide_eq_true (by first | (with_reducible assumption) | assumption)
              have q247 : x19_1 < (t243.length : Int) := of_decide_eq_true (by first | (with_reducible assumption) | assumption)
              obtain ⟨ad247, e247, hx247_0, hx247_1, hx247_2⟩ := at_T33 (Kd.R_reads' HO_3.out).2.2 x19_1 p247 q247
              cases e247
              replace p247 := eq_true p247
              replace q247 := eq_true q247
              go_upto_region 10 with (first | (go_at_call 25; (with_reducible refine (scan_Where.calls k1 _ _ l0 ((rd_T33 t243 x19_1).f2) t248 t249 _ ?side1 ?side2 A11.out).mono ?_); (case side1 => repeat (first | exact (Kd.C_below HR0.out HB.out) | (with_reducible refine Kd.C_alloc ?_ _) | (with_reducible refine Kd.C_drewN ?_ _) | (with_reducible refine Kd.C_drew ?_))); (case side2 => exact HC0.out); rintro e w13 ⟨rfl, hb⟩; have n0_ := Aside0.mk (Kd.R_below (by (with_reducible repeat (first | apply Kd.R_alloc | apply Kd.R_drewN | apply Kd.R_drew)); exact HO_3.out) hb); have n1_ := Aside0.mk (below_step (by repeat (first | (with_reducible first | exact HB.out | apply below_alloc | apply pw_below_drewN | apply below_drew1) | exact HB.out)) hb); clear HO_3; clear HB; have HO_3 := n0_; have HB := n1_; clear n0_ n1_; (try clear hb); (try clear hb2); (try clear hk); (try clear hi); have p250 : 0 ≤ (x19_1 : Int) := of_decide_eq_true (by first | (with_reducible assumption) | assumption); have q250 : x19_1 < (t243.length : Int) := of_decide_eq_true (by first | (with_reducible assumption) | assumption); obtain ⟨ad250, e250, hx250_0, hx250_1, hx250_2⟩ := at_T33 (Kd.R_reads' HO_3.out).2.2 x19_1 p250 q250; obtain rfl : ad247 = ad250 := (by injection e250); replace p250 := eq_true p250; replace q250 := eq_true q250; have p251 : 0 ≤ (x19_1 : Int) := of_decide_eq_true (by first | (with_reducible assumption) | assumption); have q251 : x19_1 < (t243.length : Int) := of_decide_eq_true (by first | (with_reducible assumption) | assumption); obtain ⟨ad251, e251, hx251_0, hx251_1, hx251_2⟩ := at_T33 (Kd.R_reads' HO_3.out).2.2 x19_1 p251 q251; obtain rfl : ad247 = ad251 := (by injection e251); replace p251 := eq_true p251; replace q251 := eq_true q251))
              repeat (go_quiet (first | (go_at_call 25; (with_reducible refine (scan_Where.calls k1 _ _ l0 ((rd_T33 t243 x19_1).f2) t248 t249 _ ?side1 ?side2 A11.out).mono ?_); (case side1 => repeat (first | exact (Kd.C_below HR0.out HB.out) | (with_reducible refine Kd.C_alloc ?_ _) | (with_reducible refine Kd.C_drewN ?_ _) | (with_reducible refine Kd.C_drew ?_))); (case side2 => exact HC0.out); rintro e w13 ⟨rfl, hb⟩; have n0_ := Aside0.mk (Kd.R_below (by (with_reducible repeat (first | apply Kd.R_alloc | apply Kd.R_drewN | apply Kd.R_drew)); exact HO_3.out) hb); have n1_ := Aside0.mk (below_step (by repeat (first | (with_reducible first | exact HB.out | apply below_alloc | apply pw_below_drewN | apply below_drew1) | exact HB.out)) hb); clear HO_3; clear HB; have HO_3 := n0_; have HB := n1_; clear n0_ n1_; (try clear hb); (try clear hb2); (try clear hk); (try clear hi); have p250 : 0 ≤ (x19_1 : Int) := of_decide_eq_true (by first | (with_reducible assumption) | assumption); have q250 : x19_1 < (t243.length : Int) := of_decide_eq_true (by first | (with_reducible assumption) | assumption); obtain ⟨ad250, e250, hx250_0, hx250_1, hx250_2⟩ := at_T33 (Kd.R_reads' HO_3.out).2.2 x19_1 p250 q250; obtain rfl : ad247 = ad250 := (by injection e250); replace p250 := eq_true p250; replace q250 := eq_true q250; have p251 : 0 ≤ (x19_1 : Int) := of_decide_eq_true (by first | (with_reducible assumption) | assumption); have q251 : x19_1 < (t243.length : Int) := of_decide_eq_true (by first | (with_reducible assumption) | assumption); obtain ⟨ad251, e251, hx251_0, hx251_1, hx251_2⟩ := at_T33 (Kd.R_reads' HO_3.out).2.2 x19_1 p251 q251; obtain rfl : ad247 = ad251 := (by injection e251); replace p251 := eq_true p251; replace q251 := eq_true q251)); go_upto_region 10 with (first | (go_at_call 25; (with_reducible refine (scan_Where.calls k1 _ _ l0 ((rd_T33 t243 x19_1).f2) t248 t249 _ ?side1 ?side2 A11.out).mono ?_); (case side1 => repeat (first | exact (Kd.C_below HR0.out HB.out) | (with_reducible refine Kd.C_alloc ?_ _) | (with_reducible refine Kd.C_drewN ?_ _) | (with_reducible refine Kd.C_drew ?_))); (case side2 => exact HC0.out); rintro e w13 ⟨rfl, hb⟩; have n0_ := Aside0.mk (Kd.R_below (by (with_reducible repeat (first | apply Kd.R_alloc | apply Kd.R_drewN | apply Kd.R_drew)); exact HO_3.out) hb); have n1_ := Aside0.mk (below_step (by repeat (first | (with_reducible first | exact HB.out | apply below_alloc | apply pw_below_drewN | apply below_drew1) | exact HB.out)) hb); clear HO_3; clear HB; have HO_3 := n0_; have HB := n1_; clear n0_ n1_; (try clear hb); (try clear hb2); (try clear hk); (try clear hi); have p250 : 0 ≤ (x19_1 : Int) := of_decide_eq_true (by first | (with_reducible assumption) | assumption); have q250 : x19_1 < (t243.length : Int) := of_decide_eq_true (by first | (with_reducible assumption) | assumption); obtain ⟨ad250, e250, hx250_0, hx250_1, hx250_2⟩ := at_T33 (Kd.R_reads' HO_3.out).2.2 x19_1 p250 q250; obtain rfl : ad247 = ad250 := (by injection e250); replace p250 := eq_true p250; replace q250 := eq_true q250; have p251 : 0 ≤ (x19_1 : Int) := of_decide_eq_true (by first | (with_reducible assumption) | assumption); have q251 : x19_1 < (t243.length : Int) := of_decide_eq_true (by first | (with_reducible assumption) | assumption); obtain ⟨ad251, e251, hx251_0, hx251_1, hx251_2⟩ := at_T33 (Kd.R_reads' HO_3.out).2.2 x19_1 p251 q251; obtain rfl : ad247 = ad251 := (by injection e251); replace p251 := eq_true p251; replace q251 := eq_true q251)))
              (try simp only [Act.put, List.setIfInBounds_toArray, List.set_cons_zero, List.set_cons_succ])
              go_cut [79] (fun v79 wc => ∃ (kq : Nat) (x79_11 : Bool), v79 = .bool x79_11 ∧ Aside0 (glebelaw7_ScanParts.j1 kq l0 t243 x19_1 t248 (wrap64 (((rd_T33 t243 x19_1).f2) + (((rd_T33 t243 x19_1).f1).size : Int))) (t243.length : Int) x19_1 x79_11 = some r) ∧ Aside0 (kq ≤ k1) ∧ Aside0 (Kd.R k33 33 wc w.heap.size (fun _ => True) (.slice (some ad247) t243.length co7) t243) ∧ Aside0 (Below w.heap.size w wc))
              case first =>
                have H := HC12.out
                clear HC12
                by_cases c14 : ((rd_T33 t243 x19_1).f2) = x4_1
                · rw [if_pos c14] at H
                  have c14b0 : (((rd_T33 t243 x19_1).f2) == x4_1) = true := beq_iff_eq.mpr c14
                  have c14b1 : (((rd_T33 t243 x19_1).f2) != x4_1) = false := bne_eq_false_iff_eq.mpr c14
                  clear c14
                  (first | rw [c14b0] | (simp only [i64_w, i32_w]; rw [c14b0]) | skip)
                  by_cases c15 : t248 = (wrap64 (x19_1 + 1))
                  · rw [if_pos c15] at H
                    have c15b0 : (t248 == (wrap64 (x19_1 + 1))) = true := beq_iff_eq.mpr c15
                    have c15b1 : (t248 != (wrap64 (x19_1 + 1))) = false := bne_eq_false_iff_eq.mpr c15
                    clear c15
                    by_cases c16 : t249 = 1
                    · rw [if_pos c16] at H
                      have c16b0 : (t249 == 1) = true := beq_iff_eq.mpr c16
                      have c16b1 : (t249 != 1) = false := bne_eq_false_iff_eq.mpr c16
                      clear c16
                      by_cases c17 : (wrap64 (((rd_T33 t243 x19_1).f2) + (((rd_T33 t243 x19_1).f1).size : Int))) > (l0.length : Int)
                      · rw [if_pos c17] at H
                        have c17b0 : decide ((l0.length : Int) < (wrap64 (((rd_T33 t243 x19_1).f2) + (((rd_T33 t243 x19_1).f1).size : Int)))) = true := decide_eq_true c17
                        clear c17
                        have H' := Aside0.mk H
                        clear H
                        have p252 : 0 ≤ (x19_1 : Int) := of_decide_eq_true (by first | (with_reducible assumption) | assumption)
                        have q252 : x19_1 < (t243.length : Int) := of_decide_eq_true (by first | (with_reducible assumption) | assumption)
                        obtain ⟨ad252, e252, hx252_0, hx252_1, hx252_2⟩ := at_T33 (Kd.R_reads' HO_3.out).2.2 x19_1 p252 q252
                        obtain rfl : ad247 = ad252 := (by injection e252)
                        replace p252 := eq_true p252
                        replace q252 := eq_true q252
                        go_wp2
                        repeat (go_quiet (fail); try go_wp2)
                        go_meet
                        case rel => exact ⟨_, (true), (by first | rfl | (simp; done) | (simp [*]; done)), H', ⟨by have := HK1.out; first | omega | exact Nat.le_refl _⟩, ⟨by (with_reducible repeat (first | apply Kd.R_alloc | apply Kd.R_drewN | apply Kd.R_drew)); exact HO_3.out⟩, ⟨by repeat (first | (with_reducible first | exact HB.out | apply below_alloc | apply pw_below_drewN | apply below_drew1) | exact HB.out)⟩⟩
                      · rw [if_neg c17] at H
                        have c17b0 : decide ((l0.length : Int) < (wrap64 (((rd_T33 t243 x19_1).f2) + (((rd_T33 t243 x19_1).f1).size : Int)))) = false := decide_eq_false c17
                        clear c17
                        by_cases c18 : 0 ≤ x4_1
                        · rw [if_pos c18] at H
                          have c18b0 := eq_true c18
                          have c18b1 : decide (0 ≤ x4_1) = true := decide_eq_true c18
                          clear c18
                          by_cases c19 : x4_1 ≤ (wrap64 (((rd_T33 t243 x19_1).f2) + (((rd_T33 t243 x19_1).f1).size : Int)))
                          · rw [if_pos c19] at H
                            have c19b0 := eq_true c19
                            have c19b1 : decide (x4_1 ≤ (wrap64 (((rd_T33 t243 x19_1).f2) + (((rd_T33 t243 x19_1).f1).size : Int)))) = true := decide_eq_true c19
                            by_cases c20 : (wrap64 (((rd_T33 t243 x19_1).f2) + (((rd_T33 t243 x19_1).f1).size : Int))) ≤ (l0.length : Int)
                            · rw [if_pos c20] at H
                              have c20b0 := eq_true c20
                              have c20b1 : decide ((wrap64 (((rd_T33 t243 x19_1).f2) + (((rd_T33 t243 x19_1).f1).size : Int))) ≤ (l0.length : Int)) = true := decide_eq_true c20
                              have H' := Aside0.mk H
                              clear H
                              have p252 : 0 ≤ (x19_1 : Int) := of_decide_eq_true (by first | (with_reducible assumption) | assumption)
                              have q252 : x19_1 < (t243.length : Int) := of_decide_eq_true (by first | (with_reducible assumption) | assumption)
                              obtain ⟨ad252, e252, hx252_0, hx252_1, hx252_2⟩ := at_T33 (Kd.R_reads' HO_3.out).2.2 x19_1 p252 q252
                              obtain rfl : ad247 = ad252 := (by injection e252)
                              replace p252 := eq_true p252
                              replace q252 := eq_true q252
                              obtain ⟨i021, hi021, _, hsz21, _⟩ := info_parts info5
                              obtain ⟨A21, hcut21, hA21, hC21⟩ := print_mid_of (P := Try.prog) (Value.int .u8) 0 29 5 .i64 .i64 Try.underlying29 hi021 hsz21 A0 c0 l0 x4_1 (wrap64 (((rd_T33 t243 x19_1).f2) + (((rd_T33 t243 x19_1).f1).size : Int))) (of_decide_eq_true (by first | (with_reducible assumption) | assumption)) (by first | omega | exact of_decide_eq_true (by first | (with_reducible assumption) | assumption)) (of_decide_eq_true (by first | (with_reducible assumption) | assumption)) HC0.out
                              have HR253 := Aside0.mk (Kd.C_of_reads (h1 := fun _ => rfl) (hA21 _ (Kd.reads_of_C HR0.out)))
                              have HC253 := Aside0.mk hC21
                              clear hA21 hC21 hi021 hsz21
                              have hcv22 := Kd.C_string (P := Try.prog) (A := A21) (c := (c0 - x4_1.toNat)) Try.underlying29 Try.underlying5 Try.underlying9 (Kd.C_below HR253.out HB.out)
                              (try rw [XW.cut_len (l := l0) (a := x4_1) (b := (wrap64 (((rd_T33 t243 x19_1).f2) + (((rd_T33 t243 x19_1).f1).size : Int)))) (by first | omega | exact of_decide_eq_true (by first | (with_reducible assumption) | assumption)) (by first | omega | exact of_decide_eq_true (by first | (with_reducible assumption) | assumption)) (by first | omega | exact of_decide_eq_true (by first | (with_reducible assumption) | assumption))] at hcv22)
                              (try simp only [Int.reduceToNat, Nat.sub_zero] at hcv22)
                              have hcv22n := fun (n_ : Nat) => Kd.C_string (P := Try.prog) (A := A21) (c := (c0 - x4_1.toNat)) Try.underlying29 Try.underlying5 Try.underlying9 (Kd.C_drewN ((Kd.C_below HR253.out HB.out)) n_)
                              (try rw [XW.cut_len (l := l0) (a := x4_1) (b := (wrap64 (((rd_T33 t243 x19_1).f2) + (((rd_T33 t243 x19_1).f1).size : Int)))) (by first | omega | exact of_decide_eq_true (by first | (with_reducible assumption) | assumption)) (by first | omega | exact of_decide_eq_true (by first | (with_reducible assumption) | assumption)) (by first | omega | exact of_decide_eq_true (by first | (with_reducible assumption) | assumption))] at hcv22n)
                              (try simp only [Int.reduceToNat, Nat.sub_zero] at hcv22n)
                              have p254 : 0 ≤ (x19_1 : Int) := of_decide_eq_true (by first | (with_reducible assumption) | assumption)
                              have q254 : x19_1 < (t243.length : Int) := of_decide_eq_true (by first | (with_reducible assumption) | assumption)
                              obtain ⟨ad254, e254, hx254_0, hx254_1, hx254_2⟩ := at_T33 (Kd.R_reads' HO_3.out).2.2 x19_1 p254 q254
                              obtain rfl : ad247 = ad254 := (by injection e254)
                              replace p254 := eq_true p254
                              replace q254 := eq_true q254
                              go_wp2
                              repeat (go_quiet (fail); try go_wp2)
                              go_meet
                              case rel => exact ⟨_, (((strOfNums ((l0.take ((wrap64 (((rd_T33 t243 x19_1).f2) + (((rd_T33 t243 x19_1).f1).size : Int))) : Int).toNat).drop (x4_1 : Int).toNat)).toList != ((rd_T33 t243 x19_1).f1).toList)), (by first | rfl | (simp; done) | (simp [*]; done)), H', ⟨by have := HK1.out; first | omega | exact Nat.le_refl _⟩, ⟨by (with_reducible repeat (first | apply Kd.R_alloc | apply Kd.R_drewN | apply Kd.R_drew)); exact HO_3.out⟩, ⟨by repeat (first | (with_reducible first | exact HB.out | apply below_alloc | apply pw_below_drewN | apply below_drew1) | exact HB.out)⟩⟩
                            · rw [if_neg c20] at H
                              exact absurd H (by simp)
                          · rw [if_neg c19] at H
                            exact absurd H (by simp)
                        · rw [if_neg c18] at H
                          exact absurd H (by simp)
                    · rw [if_neg c16] at H
                      have c16b0 : (t249 == 1) = false := beq_eq_false_iff_ne.mpr c16
                      have c16b1 : (t249 != 1) = true := bne_iff_ne.mpr c16
                      have H' := Aside0.mk H
                      clear H
                      have p252 : 0 ≤ (x19_1 : Int) := of_decide_eq_true (by first | (with_reducible assumption) | assumption)
                      have q252 : x19_1 < (t243.length : Int) := of_decide_eq_true (by first | (with_reducible assumption) | assumption)
                      obtain ⟨ad252, e252, hx252_0, hx252_1, hx252_2⟩ := at_T33 (Kd.R_reads' HO_3.out).2.2 x19_1 p252 q252
                      obtain rfl : ad247 = ad252 := (by injection e252)
                      replace p252 := eq_true p252
                      replace q252 := eq_true q252
                      go_wp2
                      repeat (go_quiet (fail); try go_wp2)
                      go_meet
                      case rel => exact ⟨_, (true), (by first | rfl | (simp; done) | (simp [*]; done)), H', ⟨by have := HK1.out; first | omega | exact Nat.le_refl _⟩, ⟨by (with_reducible repeat (first | apply Kd.R_alloc | apply Kd.R_drewN | apply Kd.R_drew)); exact HO_3.out⟩, ⟨by repeat (first | (with_reducible first | exact HB.out | apply below_alloc | apply pw_below_drewN | apply below_drew1) | exact HB.out)⟩⟩
                  · rw [if_neg c15] at H
                    have c15b0 : (t248 == (wrap64 (x19_1 + 1))) = false := beq_eq_false_iff_ne.mpr c15
                    have c15b1 : (t248 != (wrap64 (x19_1 + 1))) = true := bne_iff_ne.mpr c15
                    have H' := Aside0.mk H
                    clear H
                    have p252 : 0 ≤ (x19_1 : Int) := of_decide_eq_true (by first | (with_reducible assumption) | assumption)
                    have q252 : x19_1 < (t243.length : Int) := of_decide_eq_true (by first | (with_reducible assumption) | assumption)
                    obtain ⟨ad252, e252, hx252_0, hx252_1, hx252_2⟩ := at_T33 (Kd.R_reads' HO_3.out).2.2 x19_1 p252 q252
                    obtain rfl : ad247 = ad252 := (by injection e252)
                    replace p252 := eq_true p252
                    replace q252 := eq_true q252
                    go_wp2
                    repeat (go_quiet (fail); try go_wp2)
                    go_meet
                    case rel => exact ⟨_, (true), (by first | rfl | (simp; done) | (simp [*]; done)), H', ⟨by have := HK1.out; first | omega | exact Nat.le_refl _⟩, ⟨by (with_reducible repeat (first | apply Kd.R_alloc | apply Kd.R_drewN | apply Kd.R_drew)); exact HO_3.out⟩, ⟨by repeat (first | (with_reducible first | exact HB.out | apply below_alloc | apply pw_below_drewN | apply below_drew1) | exact HB.out)⟩⟩
                · rw [if_neg c14] at H
                  have c14b0 : (((rd_T33 t243 x19_1).f2) == x4_1) = false := beq_eq_false_iff_ne.mpr c14
                  have c14b1 : (((rd_T33 t243 x19_1).f2) != x4_1) = true := bne_iff_ne.mpr c14
                  (first | rw [c14b0] | (simp only [i64_w, i32_w]; rw [c14b0]) | skip)
                  have H' := Aside0.mk H
                  clear H
                  have p252 : 0 ≤ (x19_1 : Int) := of_decide_eq_true (by first | (with_reducible assumption) | assumption)
                  have q252 : x19_1 < (t243.length : Int) := of_decide_eq_true (by first | (with_reducible assumption) | assumption)
                  obtain ⟨ad252, e252, hx252_0, hx252_1, hx252_2⟩ := at_T33 (Kd.R_reads' HO_3.out).2.2 x19_1 p252 q252
                  obtain rfl : ad247 = ad252 := (by injection e252)
                  replace p252 := eq_true p252
                  replace q252 := eq_true q252
                  go_wp2
                  repeat (go_quiet (fail); try go_wp2)
                  go_meet
                  case rel => exact ⟨_, (true), (by first | rfl | (simp; done) | (simp [*]; done)), H', ⟨by have := HK1.out; first | omega | exact Nat.le_refl _⟩, ⟨by (with_reducible repeat (first | apply Kd.R_alloc | apply Kd.R_drewN | apply Kd.R_drew)); exact HO_3.out⟩, ⟨by repeat (first | (with_reducible first | exact HB.out | apply below_alloc | apply pw_below_drewN | apply below_drew1) | exact HB.out)⟩⟩
              case rest =>
                clear HC12
                try clear c1
                try clear c2
                try clear c2b0
                try clear c2b1
                try clear p2
                try clear q2
                try clear hx2
                try clear hcv2
                try clear p6
                try clear c8
                try clear c8b0
                try clear c9
                try clear c9b0
                try clear c10
                try clear c10b0
                try clear c13
                try clear c14
                try clear c14b0
                try clear c14b1
                try clear c15
                try clear c15b0
                try clear c15b1
                try clear c16
                try clear c16b0
                try clear c16b1
                try clear c17
                try clear c17b0
                try clear c18
                try clear c18b0
                try clear c18b1
                try clear c19
                try clear c19b0
                try clear c19b1
                try clear c20
                try clear c20b0
                try clear c20b1
                try clear hcv22
                try clear hx247_0
                try clear hx247_1
                try clear hx247_2
                try clear hx250_0
                try clear hx250_1
                try clear hx250_2
                try clear hx251_0
                try clear hx251_1
                try clear hx251_2
                try clear hx252_0
                try clear hx252_1
                try clear hx252_2
                try clear hx254_0
                try clear hx254_1
                try clear hx254_2
                try clear p2
                try clear p247
                try clear p250
                try clear p251
                try clear p252
                try clear p254
                try clear q247
                try clear q250
                try clear q251
                try clear q252
                try clear q254
                obtain ⟨kq, x79_11, rfl, HA, HJ11, HO_3, HB⟩ := hcut
                cases kq with
                | zero => exact absurd HA.out (by simp [glebelaw7_ScanParts.j1])
                | succ kj11 =>
                  have H := HA.out
                  clear HA
                  simp only [glebelaw7_ScanParts.j1] at H
                  by_cases c23 : x79_11 = true
                  · subst c23
                    have H1 : (none) = some r := by rw [if_pos rfl] at H; exact H
                    clear H
                    have H := H1
                    clear H1
                    exact absurd H (by simp)
                  · replace c23 := Bool.eq_false_iff.mpr c23
                    subst c23
                    have H1 : ((scan_Where.f kj11 l0 (wrap64 (((rd_T33 t243 x19_1).f2) + (((rd_T33 t243 x19_1).f1).size : Int)))).bind fun bt255 => (if bt255.1 = t248 then (if 0 ≤ x19_1 then (if x19_1 < (t243.length : Int) then (glebelaw7_ScanParts.j2 kj11 l0 t243 (wrap64 (((rd_T33 t243 x19_1).f2) + (((rd_T33 t243 x19_1).f1).size : Int))) (t243.length : Int) x19_1 (bt255.2 != (wrap64 ((((rd_T33 t243 x19_1).f1).size : Int) + 1)))) else (none)) else (none)) else (glebelaw7_ScanParts.j2 kj11 l0 t243 (wrap64 (((rd_T33 t243 x19_1).f2) + (((rd_T33 t243 x19_1).f1).size : Int))) (t243.length : Int) x19_1 true))) = some r := by rw [if_neg (show ¬ (false = true) by decide)] at H; exact H
                    clear H
                    have H := H1
                    clear H1
                    replace H := Option.bind_eq_some_iff.mp H
                    obtain ⟨⟨t255, t256⟩, A240, H⟩ := H
                    replace H : (if t255 = t248 then (if 0 ≤ x19_1 then (if x19_1 < (t243.length : Int) then (glebelaw7_ScanParts.j2 kj11 l0 t243 (wrap64 (((rd_T33 t243 x19_1).f2) + (((rd_T33 t243 x19_1).f1).size : Int))) (t243.length : Int) x19_1 (t256 != (wrap64 ((((rd_T33 t243 x19_1).f1).size : Int) + 1)))) else (none)) else (none)) else (glebelaw7_ScanParts.j2 kj11 l0 t243 (wrap64 (((rd_T33 t243 x19_1).f2) + (((rd_T33 t243 x19_1).f1).size : Int))) (t243.length : Int) x19_1 true)) = some r := H
                    have A24 := Aside0.mk A240
                    clear A240
                    have HC25 := Aside0.mk H
                    clear H
                    go_upto_region 13 with (first | (go_at_call 25; (with_reducible refine (scan_Where.calls kj11 _ _ l0 (wrap64 (((rd_T33 t243 x19_1).f2) + (((rd_T33 t243 x19_1).f1).size : Int))) t255 t256 _ ?side1 ?side2 A24.out).mono ?_); (case side1 => repeat (first | exact (Kd.C_below HR0.out HB.out) | (with_reducible refine Kd.C_alloc ?_ _) | (with_reducible refine Kd.C_drewN ?_ _) | (with_reducible refine Kd.C_drew ?_))); (case side2 => exact HC0.out); rintro e w26 ⟨rfl, hb⟩; have n0_ := Aside0.mk (Kd.R_below (by (with_reducible repeat (first | apply Kd.R_alloc | apply Kd.R_drewN | apply Kd.R_drew)); exact HO_3.out) hb); have n1_ := Aside0.mk (below_step (by repeat (first | (with_reducible first | exact HB.out | apply below_alloc | apply pw_below_drewN | apply below_drew1) | exact HB.out)) hb); clear HO_3; clear HB; have HO_3 := n0_; have HB := n1_; clear n0_ n1_; (try clear hb); (try clear hb2); (try clear hk); (try clear hi)))
                    repeat (go_quiet (first | (go_at_call 25; (with_reducible refine (scan_Where.calls kj11 _ _ l0 (wrap64 (((rd_T33 t243 x19_1).f2) + (((rd_T33 t243 x19_1).f1).size : Int))) t255 t256 _ ?side1 ?side2 A24.out).mono ?_); (case side1 => repeat (first | exact (Kd.C_below HR0.out HB.out) | (with_reducible refine Kd.C_alloc ?_ _) | (with_reducible refine Kd.C_drewN ?_ _) | (with_reducible refine Kd.C_drew ?_))); (case side2 => exact HC0.out); rintro e w26 ⟨rfl, hb⟩; have n0_ := Aside0.mk (Kd.R_below (by (with_reducible repeat (first | apply Kd.R_alloc | apply Kd.R_drewN | apply Kd.R_drew)); exact HO_3.out) hb); have n1_ := Aside0.mk (below_step (by repeat (first | (with_reducible first | exact HB.out | apply below_alloc | apply pw_below_drewN | apply below_drew1) | exact HB.out)) hb); clear HO_3; clear HB; have HO_3 := n0_; have HB := n1_; clear n0_ n1_; (try clear hb); (try clear hb2); (try clear hk); (try clear hi))); go_upto_region 13 with (first | (go_at_call 25; (with_reducible refine (scan_Where.calls kj11 _ _ l0 (wrap64 (((rd_T33 t243 x19_1).f2) + (((rd_T33 t243 x19_1).f1).size : Int))) t255 t256 _ ?side1 ?side2 A24.out).mono ?_); (case side1 => repeat (first | exact (Kd.C_below HR0.out HB.out) | (with_reducible refine Kd.C_alloc ?_ _) | (with_reducible refine Kd.C_drewN ?_ _) | (with_reducible refine Kd.C_drew ?_))); (case side2 => exact HC0.out); rintro e w26 ⟨rfl, hb⟩; have n0_ := Aside0.mk (Kd.R_below (by (with_reducible repeat (first | apply Kd.R_alloc | apply Kd.R_drewN | apply Kd.R_drew)); exact HO_3.out) hb); have n1_ := Aside0.mk (below_step (by repeat (first | (with_reducible first | exact HB.out | apply below_alloc | apply pw_below_drewN | apply below_drew1) | exact HB.out)) hb); clear HO_3; clear HB; have HO_3 := n0_; have HB := n1_; clear n0_ n1_; (try clear hb); (try clear hb2); (try clear hk); (try clear hi))))
                    (try simp only [Act.put, List.setIfInBounds_toArray, List.set_cons_zero, List.set_cons_succ])
                    go_cut [99] (fun v99 wc => ∃ (kq : Nat) (x99_24 : Bool), v99 = .bool x99_24 ∧ Aside0 (glebelaw7_ScanParts.j2 kq l0 t243 (wrap64 (((rd_T33 t243 x19_1).f2) + (((rd_T33 t243 x19_1).f1).size : Int))) (t243.length : Int) x19_1 x99_24 = some r) ∧ Aside0 (kq ≤ kj11) ∧ Aside0 (Kd.R k33 33 wc w.heap.size (fun _ => True) (.slice (some ad247) t243.length co7) t243) ∧ Aside0 (Below w.heap.size w wc))
                    case first =>
                      have H := HC25.out
                      clear HC25
                      by_cases c27 : t255 = t248
                      · rw [if_pos c27] at H
                        have c27b0 : (t255 == t248) = true := beq_iff_eq.mpr c27
                        have c27b1 : (t255 != t248) = false := bne_eq_false_iff_eq.mpr c27
                        clear c27
                        (first | rw [c27b0] | (simp only [i64_w, i32_w]; rw [c27b0]) | skip)
                        by_cases c28 : 0 ≤ x19_1
                        · rw [if_pos c28] at H
                          have c28b0 : decide (0 ≤ x19_1) = true := decide_eq_true c28
                          clear c28
                          by_cases c29 : x19_1 < (t243.length : Int)
                          · rw [if_pos c29] at H
                            have c29b0 : decide (x19_1 < (t243.length : Int)) = true := decide_eq_true c29
                            clear c29
                            have H' := Aside0.mk H
                            clear H
                            have p257 : 0 ≤ (x19_1 : Int) := of_decide_eq_true (by first | (with_reducible assumption) | assumption)
                            have q257 : x19_1 < (t243.length : Int) := of_decide_eq_true (by first | (with_reducible assumption) | assumption)
                            obtain ⟨ad257, e257, hx257_0, hx257_1, hx257_2⟩ := at_T33 (Kd.R_reads' HO_3.out).2.2 x19_1 p257 q257
                            obtain rfl : ad247 = ad257 := (by injection e257)
                            replace p257 := eq_true p257
                            replace q257 := eq_true q257
                            go_wp2
                            repeat (go_quiet (fail); try go_wp2)
                            go_meet
                            case rel => exact ⟨_, ((t256 != (wrap64 ((((rd_T33 t243 x19_1).f1).size : Int) + 1)))), (by first | rfl | (simp; done) | (simp [*]; done)), H', ⟨by have := HK1.out; have := HJ11.out; first | omega | exact Nat.le_refl _⟩, ⟨by (with_reducible repeat (first | apply Kd.R_alloc | apply Kd.R_drewN | apply Kd.R_drew)); exact HO_3.out⟩, ⟨by repeat (first | (with_reducible first | exact HB.out | apply below_alloc | apply pw_below_drewN | apply below_drew1) | exact HB.out)⟩⟩
                          · rw [if_neg c29] at H
                            exact absurd H (by simp)
                        · rw [if_neg c28] at H
                          exact absurd H (by simp)
                      · rw [if_neg c27] at H
                        have c27b0 : (t255 == t248) = false := beq_eq_false_iff_ne.mpr c27
                        have c27b1 : (t255 != t248) = true := bne_iff_ne.mpr c27
                        (first | rw [c27b0] | (simp only [i64_w, i32_w]; rw [c27b0]) | skip)
                        have H' := Aside0.mk H
                        clear H
                        go_wp2
                        repeat (go_quiet (fail); try go_wp2)
                        go_meet
                        case rel => exact ⟨_, (true), (by first | rfl | (simp; done) | (simp [*]; done)), H', ⟨by have := HK1.out; have := HJ11.out; first | omega | exact Nat.le_refl _⟩, ⟨by (with_reducible repeat (first | apply Kd.R_alloc | apply Kd.R_drewN | apply Kd.R_drew)); exact HO_3.out⟩, ⟨by repeat (first | (with_reducible first | exact HB.out | apply below_alloc | apply pw_below_drewN | apply below_drew1) | exact HB.out)⟩⟩
                    case rest =>
                      clear HC25
                      try clear c1
                      try clear c2
                      try clear c2b0
                      try clear c2b1
                      try clear p2
                      try clear q2
                      try clear hx2
                      try clear hcv2
                      try clear p6
                      try clear c8
                      try clear c8b0
                      try clear c9
                      try clear c9b0
                      try clear c10
                      try clear c10b0
                      try clear c13
                      try clear c14
                      try clear c14b0
                      try clear c14b1
                      try clear c15
                      try clear c15b0
                      try clear c15b1
                      try clear c16
                      try clear c16b0
                      try clear c16b1
                      try clear c17
                      try clear c17b0
                      try clear c18
                      try clear c18b0
                      try clear c18b1
                      try clear c19
                      try clear c19b0
                      try clear c19b1
                      try clear c20
                      try clear c20b0
                      try clear c20b1
                      try clear hcv22
                      try clear c23
                      try clear p24
                      try clear q24
                      try clear hx24
                      try clear p25
                      try clear q25
                      try clear hx25
                      try clear c27
                      try clear c27b0
                      try clear c27b1
                      try clear c28
                      try clear c28b0
                      try clear c29
                      try clear c29b0
                      try clear hx247_0
                      try clear hx247_1
                      try clear hx247_2
                      try clear hx250_0
                      try clear hx250_1
                      try clear hx250_2
                      try clear hx251_0
                      try clear hx251_1
                      try clear hx251_2
                      try clear hx252_0
                      try clear hx252_1
                      try clear hx252_2
                      try clear hx254_0
                      try clear hx254_1
                      try clear hx254_2
                      try clear hx257_0
                      try clear hx257_1
                      try clear hx257_2
                      try clear p2
                      try clear p247
                      try clear p250
                      try clear p251
                      try clear p252
                      try clear p254
                      try clear p257
                      try clear p6
                      try clear q2
                      try clear q247
                      try clear q250
                      try clear q251
                      try clear q252
                      try clear q254
                      try clear q257
                      obtain ⟨kq, x99_24, rfl, HA, HJ24, HO_3, HB⟩ := hcut
                      cases kq with
                      | zero => exact absurd HA.out (by simp [glebelaw7_ScanParts.j2])
                      | succ kj24 =>
                        have H := HA.out
                        clear HA
                        simp only [glebelaw7_ScanParts.j2] at H
                        by_cases c30 : x99_24 = true
                        · subst c30
                          have H1 : (none) = some r := by rw [if_pos rfl] at H; exact H
                          clear H
                          have H := H1
                          clear H1
                          exact absurd H (by simp)
                        · replace c30 := Bool.eq_false_iff.mpr c30
                          subst c30
                          have H1 : (if (wrap64 (((rd_T33 t243 x19_1).f2) + (((rd_T33 t243 x19_1).f1).size : Int))) < (l0.length : Int) then (if 0 ≤ (wrap64 (((rd_T33 t243 x19_1).f2) + (((rd_T33 t243 x19_1).f1).size : Int))) then (if (rd l0 (wrap64 (((rd_T33 t243 x19_1).f2) + (((rd_T33 t243 x19_1).f1).size : Int)))) = 13 then (if (wrap64 ((wrap64 (((rd_T33 t243 x19_1).f2) + (((rd_T33 t243 x19_1).f1).size : Int))) + 1)) < (l0.length : Int) then (if 0 ≤ (wrap64 ((wrap64 (((rd_T33 t243 x19_1).f2) + (((rd_T33 t243 x19_1).f1).size : Int))) + 1)) then (glebelaw7_ScanParts.j3 kj24 l0 t243 (wrap64 (((rd_T33 t243 x19_1).f2) + (((rd_T33 t243 x19_1).f1).size : Int))) (t243.length : Int) x19_1 ((rd l0 (wrap64 ((wrap64 (((rd_T33 t243 x19_1).f2) + (((rd_T33 t243 x19_1).f1).size : Int))) + 1))) == 10)) else (none)) else (glebelaw7_ScanParts.j3 kj24 l0 t243 (wrap64 (((rd_T33 t243 x19_1).f2) + (((rd_T33 t243 x19_1).f1).size : Int))) (t243.length : Int) x19_1 false)) else (glebelaw7_ScanParts.j3 kj24 l0 t243 (wrap64 (((rd_T33 t243 x19_1).f2) + (((rd_T33 t243 x19_1).f1).size : Int))) (t243.length : Int) x19_1 false)) else (none)) else (glebelaw7_ScanParts.j3 kj24 l0 t243 (wrap64 (((rd_T33 t243 x19_1).f2) + (((rd_T33 t243 x19_1).f1).size : Int))) (t243.length : Int) x19_1 false)) = some r := by rw [if_neg (show ¬ (false = true) by decide)] at H; exact H
                          clear H
                          have H := H1
                          clear H1
                          have HC31 := Aside0.mk H
                          clear H
                          go_upto_region 15 with (fail)
                          repeat (go_quiet (fail); go_upto_region 15 with (fail))
                          go_cut [125] (fun v125 wc => ∃ (kq : Nat) (x125_30 : Bool), v125 = .bool x125_30 ∧ Aside0 (glebelaw7_ScanParts.j3 kq l0 t243 (wrap64 (((rd_T33 t243 x19_1).f2) + (((rd_T33 t243 x19_1).f1).size : Int))) (t243.length : Int) x19_1 x125_30 = some r) ∧ Aside0 (kq ≤ kj24) ∧ Aside0 (Kd.R k33 33 wc w.heap.size (fun _ => True) (.slice (some ad247) t243.length co7) t243) ∧ Aside0 (Below w.heap.size w wc))
                          case first =>
                            have H := HC31.out
                            clear HC31
                            by_cases c32 : (wrap64 (((rd_T33 t243 x19_1).f2) + (((rd_T33 t243 x19_1).f1).size : Int))) < (l0.length : Int)
                            · rw [if_pos c32] at H
                              have c32b0 : decide ((wrap64 (((rd_T33 t243 x19_1).f2) + (((rd_T33 t243 x19_1).f1).size : Int))) < (l0.length : Int)) = true := decide_eq_true c32
                              clear c32
                              (first | rw [c32b0] | (simp only [i64_w, i32_w]; rw [c32b0]) | skip)
                              obtain ⟨ji33, hji33⟩ : ∃ j_ : Int, (wrap64 (((rd_T33 t243 x19_1).f2) + (((rd_T33 t243 x19_1).f1).size : Int))) = j_ := ⟨_, rfl⟩
                              replace H : (if 0 ≤ (ji33) then (if (rd l0 (ji33)) = 13 then (if (wrap64 ((ji33) + 1)) < (l0.length : Int) then (if 0 ≤ (wrap64 ((ji33) + 1)) then (glebelaw7_ScanParts.j3 kj24 l0 t243 (ji33) (t243.length : Int) x19_1 ((rd l0 (wrap64 ((ji33) + 1))) == 10)) else (none)) else (glebelaw7_ScanParts.j3 kj24 l0 t243 (ji33) (t243.length : Int) x19_1 false)) else (glebelaw7_ScanParts.j3 kj24 l0 t243 (ji33) (t243.length : Int) x19_1 false)) else (none)) = some r := by first | (rw [hji33] at H; exact H) | (simp only [hji33] at H ⊢; exact H)
                              (try rw [hji33] at c32b0)
                              have hji33w : (IntKind.i64.wrap (((rd_T33 t243 x19_1).f2) + (((rd_T33 t243 x19_1).f1).size : Int))) = ji33 := (i64_w _).trans hji33
                              by_cases c34 : 0 ≤ (ji33)
                              · rw [if_pos c34] at H
                                have c34b0 : decide (0 ≤ (ji33)) = true := decide_eq_true c34
                                clear c34
                                by_cases c35 : (rd l0 (ji33)) = 13
                                · rw [if_pos c35] at H
                                  have c35b0 : ((rd l0 (ji33)) == 13) = true := beq_iff_eq.mpr c35
                                  have c35b1 : ((rd l0 (ji33)) != 13) = false := bne_eq_false_iff_eq.mpr c35
                                  clear c35
                                  by_cases c36 : (wrap64 ((ji33) + 1)) < (l0.length : Int)
                                  · rw [if_pos c36] at H
                                    have c36b0 : decide ((wrap64 ((ji33) + 1)) < (l0.length : Int)) = true := decide_eq_true c36
                                    clear c36
                                    obtain ⟨ji37, hji37⟩ : ∃ j_ : Int, (wrap64 ((ji33) + 1)) = j_ := ⟨_, rfl⟩
                                    replace H : (if 0 ≤ (ji37) then (glebelaw7_ScanParts.j3 kj24 l0 t243 (ji33) (t243.length : Int) x19_1 ((rd l0 (ji37)) == 10)) else (none)) = some r := by first | (rw [hji37] at H; exact H) | (simp only [hji37] at H ⊢; exact H)
                                    (try rw [hji37] at c36b0)
                                    have hji37w : (IntKind.i64.wrap ((ji33) + 1)) = ji37 := (i64_w _).trans hji37
                                    by_cases c38 : 0 ≤ (ji37)
                                    · rw [if_pos c38] at H
                                      have c38b0 : decide (0 ≤ (ji37)) = true := decide_eq_true c38
                                      clear c38
                                      have H' := Aside0.mk H
                                      clear H
                                      have p258 : 0 ≤ ((ji33) : Int) := of_decide_eq_true (by first | (with_reducible assumption) | assumption)
                                      have q258 : (ji33) < (l0.length : Int) := of_decide_eq_true (by first | (with_reducible assumption) | assumption)
                                      obtain ⟨ad258, e258, hx258_0⟩ := Kd.at_int HR0.out (ji33) p258 q258
                                      cases e258
                                      replace hx258_0 := (HB.out.cell (World.block_lt_of_cell? w _ hx258_0)).trans hx258_0
                                      replace p258 := eq_true p258
                                      replace q258 := eq_true q258
                                      have p259 : 0 ≤ ((ji37) : Int) := of_decide_eq_true (by first | (with_reducible assumption) | assumption)
                                      have q259 : (ji37) < (l0.length : Int) := of_decide_eq_true (by first | (with_reducible assumption) | assumption)
                                      obtain ⟨ad259, e259, hx259_0⟩ := Kd.at_int HR0.out (ji37) p259 q259
                                      obtain rfl : ad258 = ad259 := (by injection e259)
                                      replace hx259_0 := (HB.out.cell (World.block_lt_of_cell? w _ hx259_0)).trans hx259_0
                                      replace p259 := eq_true p259
                                      replace q259 := eq_true q259
                                      go_wp2
                                      repeat (go_quiet (fail); try go_wp2)
                                      subst hji33
                                      subst hji37
                                      go_meet
                                      case rel => exact ⟨_, (((rd l0 (wrap64 ((wrap64 (((rd_T33 t243 x19_1).f2) + (((rd_T33 t243 x19_1).f1).size : Int))) + 1))) == 10)), (by first | rfl | (simp; done) | (simp [*]; done)), H', ⟨by have := HK1.out; have := HJ11.out; have := HJ24.out; first | omega | exact Nat.le_refl _⟩, ⟨by (with_reducible repeat (first | apply Kd.R_alloc | apply Kd.R_drewN | apply Kd.R_drew)); exact HO_3.out⟩, ⟨by repeat (first | (with_reducible first | exact HB.out | apply below_alloc | apply pw_below_drewN | apply below_drew1) | exact HB.out)⟩⟩
                                    · rw [if_neg c38] at H
                                      exact absurd H (by simp)
                                  · rw [if_neg c36] at H
                                    have c36b0 : decide ((wrap64 ((ji33) + 1)) < (l0.length : Int)) = false := decide_eq_false c36
                                    clear c36
                                    have H' := Aside0.mk H
                                    clear H
                                    have p258 : 0 ≤ ((ji33) : Int) := of_decide_eq_true (by first | (with_reducible assumption) | assumption)
                                    have q258 : (ji33) < (l0.length : Int) := of_decide_eq_true (by first | (with_reducible assumption) | assumption)
                                    obtain ⟨ad258, e258, hx258_0⟩ := Kd.at_int HR0.out (ji33) p258 q258
                                    cases e258
                                    replace hx258_0 := (HB.out.cell (World.block_lt_of_cell? w _ hx258_0)).trans hx258_0
                                    replace p258 := eq_true p258
                                    replace q258 := eq_true q258
                                    go_wp2
                                    repeat (go_quiet (fail); try go_wp2)
                                    subst hji33
                                    go_meet
                                    case rel => exact ⟨_, (false), (by first | rfl | (simp; done) | (simp [*]; done)), H', ⟨by have := HK1.out; have := HJ11.out; have := HJ24.out; first | omega | exact Nat.le_refl _⟩, ⟨by (with_reducible repeat (first | apply Kd.R_alloc | apply Kd.R_drewN | apply Kd.R_drew)); exact HO_3.out⟩, ⟨by repeat (first | (with_reducible first | exact HB.out | apply below_alloc | apply pw_below_drewN | apply below_drew1) | exact HB.out)⟩⟩
                                · rw [if_neg c35] at H
                                  have c35b0 : ((rd l0 (ji33)) == 13) = false := beq_eq_false_iff_ne.mpr c35
                                  have c35b1 : ((rd l0 (ji33)) != 13) = true := bne_iff_ne.mpr c35
                                  have H' := Aside0.mk H
                                  clear H
                                  have p258 : 0 ≤ ((ji33) : Int) := of_decide_eq_true (by first | (with_reducible assumption) | assumption)
                                  have q258 : (ji33) < (l0.length : Int) := of_decide_eq_true (by first | (with_reducible assumption) | assumption)
                                  obtain ⟨ad258, e258, hx258_0⟩ := Kd.at_int HR0.out (ji33) p258 q258
                                  cases e258
                                  replace hx258_0 := (HB.out.cell (World.block_lt_of_cell? w _ hx258_0)).trans hx258_0
                                  replace p258 := eq_true p258
                                  replace q258 := eq_true q258
                                  go_wp2
                                  repeat (go_quiet (fail); try go_wp2)
                                  subst hji33
                                  go_meet
                                  case rel => exact ⟨_, (false), (by first | rfl | (simp; done) | (simp [*]; done)), H', ⟨by have := HK1.out; have := HJ11.out; have := HJ24.out; first | omega | exact Nat.le_refl _⟩, ⟨by (with_reducible repeat (first | apply Kd.R_alloc | apply Kd.R_drewN | apply Kd.R_drew)); exact HO_3.out⟩, ⟨by repeat (first | (with_reducible first | exact HB.out | apply below_alloc | apply pw_below_drewN | apply below_drew1) | exact HB.out)⟩⟩
                              · rw [if_neg c34] at H
                                exact absurd H (by simp)
                            · rw [if_neg c32] at H
                              have c32b0 : decide ((wrap64 (((rd_T33 t243 x19_1).f2) + (((rd_T33 t243 x19_1).f1).size : Int))) < (l0.length : Int)) = false := decide_eq_false c32
                              clear c32
                              (first | rw [c32b0] | (simp only [i64_w, i32_w]; rw [c32b0]) | skip)
                              have H' := Aside0.mk H
                              clear H
                              go_wp2
                              repeat (go_quiet (fail); try go_wp2)
                              go_meet
                              case rel => exact ⟨_, (false), (by first | rfl | (simp; done) | (simp [*]; done)), H', ⟨by have := HK1.out; have := HJ11.out; have := HJ24.out; first | omega | exact Nat.le_refl _⟩, ⟨by (with_reducible repeat (first | apply Kd.R_alloc | apply Kd.R_drewN | apply Kd.R_drew)); exact HO_3.out⟩, ⟨by repeat (first | (with_reducible first | exact HB.out | apply below_alloc | apply pw_below_drewN | apply below_drew1) | exact HB.out)⟩⟩
                          case rest =>
                            clear HC31
                            try clear c1
                            try clear c2
                            try clear c2b0
                            try clear c2b1
                            try clear p2
                            try clear q2
                            try clear hx2
                            try clear hcv2
                            try clear c3
                            try clear p6
                            try clear c8
                            try clear c8b0
                            try clear c9
                            try clear c9b0
                            try clear c10
                            try clear c10b0
                            try clear c13
                            try clear c14
                            try clear c14b0
                            try clear c14b1
                            try clear c15
                            try clear c15b0
                            try clear c15b1
                            try clear c16
                            try clear c16b0
                            try clear c16b1
                            try clear c17
                            try clear c17b0
                            try clear c18
                            try clear c18b0
                            try clear c18b1
                            try clear c19
                            try clear c19b0
                            try clear c19b1
                            try clear c20
                            try clear c20b0
                            try clear c20b1
                            try clear hcv22
                            try clear c23
                            try clear p24
                            try clear q24
                            try clear hx24
                            try clear p25
                            try clear q25
                            try clear hx25
                            try clear c27
                            try clear c27b0
                            try clear c27b1
                            try clear c28
                            try clear c28b0
                            try clear c29
                            try clear c29b0
                            try clear c30
                            try clear c32
                            try clear c32b0
                            try clear c34
                            try clear c34b0
                            try clear c35
                            try clear c35b0
                            try clear c35b1
                            try clear c36
                            try clear c36b0
                            try clear c38
                            try clear c38b0
                            try clear hx247_0
                            try clear hx247_1
                            try clear hx247_2
                            try clear hx250_0
                            try clear hx250_1
                            try clear hx250_2
                            try clear hx251_0
                            try clear hx251_1
                            try clear hx251_2
                            try clear hx252_0
                            try clear hx252_1
                            try clear hx252_2
                            try clear hx254_0
                            try clear hx254_1
                            try clear hx254_2
                            try clear hx257_0
                            try clear hx257_1
                            try clear hx257_2
                            try clear hx258_0
                            try clear hx259_0
                            try clear p2
                            try clear p24
                            try clear p247
                            try clear p25
                            try clear p250
                            try clear p251
                            try clear p252
                            try clear p254
                            try clear p257
                            try clear p258
                            try clear p259
                            try clear p6
                            try clear q2
                            try clear q24
                            try clear q247
                            try clear q25
                            try clear q250
                            try clear q251
                            try clear q252
                            try clear q254
                            try clear q257
                            try clear q258
                            try clear q259
                            obtain ⟨kq, x125_30, rfl, HA, HJ30, HO_3, HB⟩ := hcut
                            cases kq with
                            | zero => exact absurd HA.out (by simp [glebelaw7_ScanParts.j3])
                            | succ kj30 =>
                              have H := HA.out
                              clear HA
                              simp only [glebelaw7_ScanParts.j3] at H
                              by_cases c39 : x125_30 = true
                              · subst c39
                                have H1 : (if (wrap64 ((wrap64 (((rd_T33 t243 x19_1).f2) + (((rd_T33 t243 x19_1).f1).size : Int))) + 1)) < (l0.length : Int) then (if 0 ≤ (wrap64 ((wrap64 (((rd_T33 t243 x19_1).f2) + (((rd_T33 t243 x19_1).f1).size : Int))) + 1)) then (if (rd l0 (wrap64 ((wrap64 (((rd_T33 t243 x19_1).f2) + (((rd_T33 t243 x19_1).f1).size : Int))) + 1))) = 10 then (glebelaw7_ScanParts.l0 kj30 l0 t243 (wrap64 ((wrap64 ((wrap64 (((rd_T33 t243 x19_1).f2) + (((rd_T33 t243 x19_1).f1).size : Int))) + 1)) + 1)) (t243.length : Int) (wrap64 (x19_1 + 1))) else (none)) else (none)) else (glebelaw7_ScanParts.l0 kj30 l0 t243 (wrap64 ((wrap64 ((wrap64 (((rd_T33 t243 x19_1).f2) + (((rd_T33 t243 x19_1).f1).size : Int))) + 1)) + 1)) (t243.length : Int) (wrap64 (x19_1 + 1)))) = some r := by rw [if_pos rfl] at H; exact H
                                clear H
                                have H := H1
                                clear H1
                                by_cases c40 : (wrap64 ((wrap64 (((rd_T33 t243 x19_1).f2) + (((rd_T33 t243 x19_1).f1).size : Int))) + 1)) < (l0.length : Int)
                                · rw [if_pos c40] at H
                                  have c40b0 : decide ((wrap64 ((wrap64 (((rd_T33 t243 x19_1).f2) + (((rd_T33 t243 x19_1).f1).size : Int))) + 1)) < (l0.length : Int)) = true := decide_eq_true c40
                                  clear c40
                                  obtain ⟨ji41, hji41⟩ : ∃ j_ : Int, (wrap64 ((wrap64 (((rd_T33 t243 x19_1).f2) + (((rd_T33 t243 x19_1).f1).size : Int))) + 1)) = j_ := ⟨_, rfl⟩
                                  replace H : (if 0 ≤ (ji41) then (if (rd l0 (ji41)) = 10 then (glebelaw7_ScanParts.l0 kj30 l0 t243 (wrap64 ((ji41) + 1)) (t243.length : Int) (wrap64 (x19_1 + 1))) else (none)) else (none)) = some r := by first | (rw [hji41] at H; exact H) | (simp only [hji41] at H ⊢; exact H)
                                  (try rw [hji41] at c40b0)
                                  have hji41w : (IntKind.i64.wrap ((wrap64 (((rd_T33 t243 x19_1).f2) + (((rd_T33 t243 x19_1).f1).size : Int))) + 1)) = ji41 := (i64_w _).trans hji41
                                  by_cases c42 : 0 ≤ (ji41)
                                  · rw [if_pos c42] at H
                                    have c42b0 : decide (0 ≤ (ji41)) = true := decide_eq_true c42
                                    clear c42
                                    by_cases c43 : (rd l0 (ji41)) = 10
                                    · rw [if_pos c43] at H
                                      have c43b0 : ((rd l0 (ji41)) == 10) = true := beq_iff_eq.mpr c43
                                      have c43b1 : ((rd l0 (ji41)) != 10) = false := bne_eq_false_iff_eq.mpr c43
                                      clear c43
                                      have H' := Aside0.mk H
                                      clear H
                                      have p260 : 0 ≤ ((ji41) : Int) := of_decide_eq_true (by first | (with_reducible assumption) | assumption)
                                      have q260 : (ji41) < (l0.length : Int) := of_decide_eq_true (by first | (with_reducible assumption) | assumption)
                                      obtain ⟨ad260, e260, hx260_0⟩ := Kd.at_int HR0.out (ji41) p260 q260
                                      cases e260
                                      replace hx260_0 := (HB.out.cell (World.block_lt_of_cell? w _ hx260_0)).trans hx260_0
                                      replace p260 := eq_true p260
                                      replace q260 := eq_true q260
                                      go_wp2
                                      repeat (go_quiet (fail); try go_wp2)
                                      go_roundg kj30
                                      case measure => have := HK1.out; have := HJ11.out; have := HJ24.out; have := HJ30.out; omega
                                      case rel => exact ⟨(wrap64 ((ji41) + 1)), (wrap64 (x19_1 + 1)), (by first | rfl | (simp; done) | (simp only [← hji41] <;> (first | rfl | simp)) | (simp [*]; done)), (by first | rfl | (simp; done) | (simp [*]; done)), H', ⟨by have := HK1.out; have := HJ11.out; have := HJ24.out; have := HJ30.out; omega⟩, ⟨by (with_reducible repeat (first | apply Kd.R_alloc | apply Kd.R_drewN | apply Kd.R_drew)); exact HO_3.out⟩, ⟨by repeat (first | (with_reducible first | exact HB.out | apply below_alloc | apply pw_below_drewN | apply below_drew1) | exact HB.out)⟩⟩
                                    · rw [if_neg c43] at H
                                      exact absurd H (by simp)
                                  · rw [if_neg c42] at H
                                    exact absurd H (by simp)
                                · rw [if_neg c40] at H
                                  have c40b0 : decide ((wrap64 ((wrap64 (((rd_T33 t243 x19_1).f2) + (((rd_T33 t243 x19_1).f1).size : Int))) + 1)) < (l0.length : Int)) = false := decide_eq_false c40
                                  clear c40
                                  have H' := Aside0.mk H
                                  clear H
                                  go_wp2
                                  repeat (go_quiet (fail); try go_wp2)
                                  go_roundg kj30
                                  case measure => have := HK1.out; have := HJ11.out; have := HJ24.out; have := HJ30.out; omega
                                  case rel => exact ⟨(wrap64 ((wrap64 ((wrap64 (((rd_T33 t243 x19_1).f2) + (((rd_T33 t243 x19_1).f1).size : Int))) + 1)) + 1)), (wrap64 (x19_1 + 1)), (by first | rfl | (simp; done) | (simp [*]; done)), (by first | rfl | (simp; done) | (simp [*]; done)), H', ⟨by have := HK1.out; have := HJ11.out; have := HJ24.out; have := HJ30.out; omega⟩, ⟨by (with_reducible repeat (first | apply Kd.R_alloc | apply Kd.R_drewN | apply Kd.R_drew)); exact HO_3.out⟩, ⟨by repeat (first | (with_reducible first | exact HB.out | apply below_alloc | apply pw_below_drewN | apply below_drew1) | exact HB.out)⟩⟩
                              · replace c39 := Bool.eq_false_iff.mpr c39
                                subst c39
                                have H1 : (if (wrap64 (((rd_T33 t243 x19_1).f2) + (((rd_T33 t243 x19_1).f1).size : Int))) < (l0.length : Int) then (if 0 ≤ (wrap64 (((rd_T33 t243 x19_1).f2) + (((rd_T33 t243 x19_1).f1).size : Int))) then (if (rd l0 (wrap64 (((rd_T33 t243 x19_1).f2) + (((rd_T33 t243 x19_1).f1).size : Int)))) = 10 then (glebelaw7_ScanParts.l0 kj30 l0 t243 (wrap64 ((wrap64 (((rd_T33 t243 x19_1).f2) + (((rd_T33 t243 x19_1).f1).size : Int))) + 1)) (t243.length : Int) (wrap64 (x19_1 + 1))) else (none)) else (none)) else (glebelaw7_ScanParts.l0 kj30 l0 t243 (wrap64 ((wrap64 (((rd_T33 t243 x19_1).f2) + (((rd_T33 t243 x19_1).f1).size : Int))) + 1)) (t243.length : Int) (wrap64 (x19_1 + 1)))) = some r := by rw [if_neg (show ¬ (false = true) by decide)] at H; exact H
                                clear H
                                have H := H1
                                clear H1
                                by_cases c44 : (wrap64 (((rd_T33 t243 x19_1).f2) + (((rd_T33 t243 x19_1).f1).size : Int))) < (l0.length : Int)
                                · rw [if_pos c44] at H
                                  have c44b0 : decide ((wrap64 (((rd_T33 t243 x19_1).f2) + (((rd_T33 t243 x19_1).f1).size : Int))) < (l0.length : Int)) = true := decide_eq_true c44
                                  clear c44
                                  obtain ⟨ji45, hji45⟩ : ∃ j_ : Int, (wrap64 (((rd_T33 t243 x19_1).f2) + (((rd_T33 t243 x19_1).f1).size : Int))) = j_ := ⟨_, rfl⟩
                                  replace H : (if 0 ≤ (ji45) then (if (rd l0 (ji45)) = 10 then (glebelaw7_ScanParts.l0 kj30 l0 t243 (wrap64 ((ji45) + 1)) (t243.length : Int) (wrap64 (x19_1 + 1))) else (none)) else (none)) = some r := by first | (rw [hji45] at H; exact H) | (simp only [hji45] at H ⊢; exact H)
                                  (try rw [hji45] at c44b0)
                                  have hji45w : (IntKind.i64.wrap (((rd_T33 t243 x19_1).f2) + (((rd_T33 t243 x19_1).f1).size : Int))) = ji45 := (i64_w _).trans hji45
                                  by_cases c46 : 0 ≤ (ji45)
                                  · rw [if_pos c46] at H
                                    have c46b0 : decide (0 ≤ (ji45)) = true := decide_eq_true c46
                                    clear c46
                                    by_cases c47 : (rd l0 (ji45)) = 10
                                    · rw [if_pos c47] at H
                                      have c47b0 : ((rd l0 (ji45)) == 10) = true := beq_iff_eq.mpr c47
                                      have c47b1 : ((rd l0 (ji45)) != 10) = false := bne_eq_false_iff_eq.mpr c47
                                      clear c47
                                      have H' := Aside0.mk H
                                      clear H
                                      have p261 : 0 ≤ ((ji45) : Int) := of_decide_eq_true (by first | (with_reducible assumption) | assumption)
                                      have q261 : (ji45) < (l0.length : Int) := of_decide_eq_true (by first | (with_reducible assumption) | assumption)
                                      obtain ⟨ad261, e261, hx261_0⟩ := Kd.at_int HR0.out (ji45) p261 q261
                                      cases e261
                                      replace hx261_0 := (HB.out.cell (World.block_lt_of_cell? w _ hx261_0)).trans hx261_0
                                      replace p261 := eq_true p261
                                      replace q261 := eq_true q261
                                      go_wp2
                                      repeat (go_quiet (fail); try go_wp2)
                                      go_roundg kj30
                                      case measure => have := HK1.out; have := HJ11.out; have := HJ24.out; have := HJ30.out; omega
                                      case rel => exact ⟨(wrap64 ((ji45) + 1)), (wrap64 (x19_1 + 1)), (by first | rfl | (simp; done) | (simp only [← hji45] <;> (first | rfl | simp)) | (simp [*]; done)), (by first | rfl | (simp; done) | (simp [*]; done)), H', ⟨by have := HK1.out; have := HJ11.out; have := HJ24.out; have := HJ30.out; omega⟩, ⟨by (with_reducible repeat (first | apply Kd.R_alloc | apply Kd.R_drewN | apply Kd.R_drew)); exact HO_3.out⟩, ⟨by repeat (first | (with_reducible first | exact HB.out | apply below_alloc | apply pw_below_drewN | apply below_drew1) | exact HB.out)⟩⟩
                                    · rw [if_neg c47] at H
                                      exact absurd H (by simp)
                                  · rw [if_neg c46] at H
                                    exact absurd H (by simp)
                                · rw [if_neg c44] at H
                                  have c44b0 : decide ((wrap64 (((rd_T33 t243 x19_1).f2) + (((rd_T33 t243 x19_1).f1).size : Int))) < (l0.length : Int)) = false := decide_eq_false c44
                                  clear c44
                                  have H' := Aside0.mk H
                                  clear H
                                  go_wp2
                                  repeat (go_quiet (fail); try go_wp2)
                                  go_roundg kj30
                                  case measure => have := HK1.out; have := HJ11.out; have := HJ24.out; have := HJ30.out; omega
                                  case rel => exact ⟨(wrap64 ((wrap64 (((rd_T33 t243 x19_1).f2) + (((rd_T33 t243 x19_1).f1).size : Int))) + 1)), (wrap64 (x19_1 + 1)), (by first | rfl | (simp; done) | (simp [*]; done)), (by first | rfl | (simp; done) | (simp [*]; done)), H', ⟨by have := HK1.out; have := HJ11.out; have := HJ24.out; have := HJ30.out; omega⟩, ⟨by (with_reducible repeat (first | apply Kd.R_alloc | apply Kd.R_drewN | apply Kd.R_drew)); exact HO_3.out⟩, ⟨by repeat (first | (with_reducible first | exact HB.out | apply below_alloc | apply pw_below_drewN | apply below_drew1) | exact HB.out)⟩⟩
            · rw [if_neg c10] at H
              exact absurd H (by simp)
          · rw [if_neg c9] at H
            exact absurd H (by simp)
        · rw [if_neg c8] at H
          have c8b0 : decide (x19_1 < (t243.length : Int)) = false := decide_eq_false c8
          clear c8
          by_cases c48 : x4_1 ≥ (l0.length : Int)
          · rw [if_pos c48] at H
            have c48b0 : decide ((l0.length : Int) ≤ x4_1) = true := decide_eq_true c48
            clear c48
            replace H := Option.bind_eq_some_iff.mp H
            obtain ⟨t246, A490, H⟩ := H
            replace H : (some t246) = some r := H
            have A49 := Aside0.mk A490
            clear A490
            obtain rfl := Option.some.inj H
            go_wp2_with (first | (go_at_call 28; (with_reducible refine (glebelaw7_awake.calls k1  t246 _ A49.out).mono ?_); rintro e w50 ⟨rfl, hb⟩; have n0_ := Aside0.mk (Kd.R_below (by (with_reducible repeat (first | apply Kd.R_alloc | apply Kd.R_drewN | apply Kd.R_drew)); exact HO_3.out) hb); have n1_ := Aside0.mk (below_step (by repeat (first | (with_reducible first | exact HB.out | apply below_alloc | apply pw_below_drewN | apply below_drew1) | exact HB.out)) hb); clear HO_3; clear HB; have HO_3 := n0_; have HB := n1_; clear n0_ n1_; (try clear hb); (try clear hb2); (try clear hk); (try clear hi)))
            repeat (go_quiet (first | (go_at_call 28; (with_reducible refine (glebelaw7_awake.calls k1  t246 _ A49.out).mono ?_); rintro e w50 ⟨rfl, hb⟩; have n0_ := Aside0.mk (Kd.R_below (by (with_reducible repeat (first | apply Kd.R_alloc | apply Kd.R_drewN | apply Kd.R_drew)); exact HO_3.out) hb); have n1_ := Aside0.mk (below_step (by repeat (first | (with_reducible first | exact HB.out | apply below_alloc | apply pw_below_drewN | apply below_drew1) | exact HB.out)) hb); clear HO_3; clear HB; have HO_3 := n0_; have HB := n1_; clear n0_ n1_; (try clear hb); (try clear hb2); (try clear hk); (try clear hi))); try go_wp2_with (first | (go_at_call 28; (with_reducible refine (glebelaw7_awake.calls k1  t246 _ A49.out).mono ?_); rintro e w50 ⟨rfl, hb⟩; have n0_ := Aside0.mk (Kd.R_below (by (with_reducible repeat (first | apply Kd.R_alloc | apply Kd.R_drewN | apply Kd.R_drew)); exact HO_3.out) hb); have n1_ := Aside0.mk (below_step (by repeat (first | (with_reducible first | exact HB.out | apply below_alloc | apply pw_below_drewN | apply below_drew1) | exact HB.out)) hb); clear HO_3; clear HB; have HO_3 := n0_; have HB := n1_; clear n0_ n1_; (try clear hb); (try clear hb2); (try clear hk); (try clear hi))))
            go_ret
            exact ⟨by first | rfl | (simp [errW_none, errW_some] <;> rfl) | (simp [*, errW_none, errW_some] <;> rfl), by repeat (first | (with_reducible first | exact HB.out | apply below_alloc | apply pw_below_drewN | apply below_drew1) | exact HB.out)⟩
          · rw [if_neg c48] at H
            exact absurd H (by simp)

/-- THE ONE PURE STATEMENT of glebelaw7_ScanParts: yours. -/
def glebelaw7_ScanParts.Pure : Prop := ∀ (l0 : List Int), l0.length ≤ maxLen → l0.length * 1 ≤ 140737488351232 → (∀ x ∈ l0, (Lit.int .u8 x).wf = true) → ∃ k, glebelaw7_ScanParts.f k l0 = some true
theorem glebelaw7_ScanParts.walk (P : glebelaw7_ScanParts.Pure) (a0 : Option Addr) (len0 cap0 : Nat) (z0 : List Int) (w : World) (w0 : (a0 = none ∧ len0 = 0 ∧ cap0 = 0 ∧ z0 = []) ∨ ∃ x, a0 = some x ∧ len0 ≤ cap0 ∧ cap0 ≤ maxLen ∧ z0.length = cap0 ∧ (∀ i, i < z0.length → w.cell? (x.add i) = some (.int .u8 (z0.getD i 0))) ∧ ∀ n ∈ z0, (Lit.int .u8 n).wf = true) (y0 : len0 * 1 ≤ 140737488351232) :
    Calls Try.prog 13 #[.slice a0 len0 cap0] w fun e w' => e = .returned (.bool true) ∧ Below w.heap.size w w' := by
  obtain ⟨l0, rfl, hr0, hm0, hw0, hc0⟩ := ReadsInt.ofRowC w0
  obtain ⟨k, h⟩ := P l0 hm0 y0 hw0
  refine (glebelaw7_ScanParts.calls k _ _ l0 true w (Kd.C_of_reads (d := (0 : Int)) (h1 := fun _ => rfl) hr0) hc0 h).mono ?_
  rintro e w' ⟨rfl, hd⟩
  exact ⟨rfl, hd⟩

end Go.Proofs.Ytnkcffmklomfhaa.Y
