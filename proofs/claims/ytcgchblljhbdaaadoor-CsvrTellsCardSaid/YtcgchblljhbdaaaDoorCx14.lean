-- Printed by this session's own program (wip/xprint) out of the translation. Lean checks it.
import Derived.Test.YtcgchblljhbdaaaDoorCx0
import Derived.Test.YtcgchblljhbdaaaDoorCx1
import Derived.Test.YtcgchblljhbdaaaDoorCx5
import Derived.Test.YtcgchblljhbdaaaDoorCx6
import Derived.Test.YtcgchblljhbdaaaDoorCx10
import Derived.Test.YtcgchblljhbdaaaDoorCx12
import Derived.Test.YtcgchblljhbdaaaDoorCx13
namespace Go.Proofs.YtcgchblljhbdaaaDoor.C
open Go.Proofs.YtcgchblljhbdaaaDoor
open Go.RowKit Go.Proofs.YtcgchblljhbdaaaDoorW.PrintWords Go.Proofs.YtcgchblljhbdaaaDoorW.PrintLast Go.Proofs.YtcgchblljhbdaaaDoorW.PrintMore
attribute [local go_sem] max2_int min2_int max_two min_two max_three min_three max_four min_four   -- for this text's walks alone
set_option linter.unusedVariables false
set_option linter.unusedSimpArgs false

attribute [local go_sem high] eqA54
/-! ### glebelaw9_CsvrTells: function 13 -/
mutual
def glebelaw9_CsvrTells.j0 : Nat → List Int → List Int → List (List Int) → Int → Bool → Option (Bool)
 | 0, _, _, _, _, _ => none
 | k + 1, x0, x1, x2, x3, x26 => if x26 = true then ((glebelaw9_awake.f k).bind fun t425 => (some t425)) else ((glebelaw9_Text.f k x1).bind fun t426 => ((glebelaw9_Text.f k x1).bind fun t429 => (if t429.length + x0.length < 140737488355328 then ((some (([x0, t426, (t429 ++ x0)] : List (List Int)) : List (List Int))).bind fun y435 => (glebelaw9_CsvrTells.l0 k x2 x3 y435 (y435.length : Int) 0)) else (none))))
def glebelaw9_CsvrTells.l0 : Nat → List (List Int) → Int → List (List Int) → Int → Int → Option (Bool)
 | 0, _, _, _, _, _ => none
 | k + 1, x2, x3, x35, x36, x37 => if x37 < x36 then (if 0 ≤ x37 then (if x37 < (x35.length : Int) then ((csvr_Parse.f k (rd_L7 x35 x37)).bind fun bt439 => ((gleberef7_Records.f k (rd_L7 x35 x37)).bind fun bt445 => (if (!(bt439.2.1 == bt445.2.1) || (!(bt439.2.2 == bt445.2.2))) = true then (glebelaw9_CsvrTells.j2 k x2 x3 bt439.1 bt445.1 x35 x36 x37 true) else (glebelaw9_CsvrTells.j2 k x2 x3 bt439.1 bt445.1 x35 x36 x37 ((bt439.1.length : Int) != (bt445.1.length : Int)))))) else (none)) else (none)) else (glebelaw9_CsvrTells.l2 k x2 x3 ([] : List (List ByteArray)) ([] : List ByteArray) (x2.length : Int) 0)
def glebelaw9_CsvrTells.j2 : Nat → List (List Int) → Int → List (List (S59)) → List (List (S59)) → List (List Int) → Int → Int → Bool → Option (Bool)
 | 0, _, _, _, _, _, _, _, _ => none
 | k + 1, x2, x3, x11, x13, x35, x36, x37, x60 => if x60 = true then (none) else (glebelaw9_CsvrTells.l1 k x2 x3 x11 x13 x35 x36 x37 (x11.length : Int) 0)
def glebelaw9_CsvrTells.l1 : Nat → List (List Int) → Int → List (List (S59)) → List (List (S59)) → List (List Int) → Int → Int → Int → Int → Option (Bool)
 | 0, _, _, _, _, _, _, _, _, _ => none
 | k + 1, x2, x3, x11, x13, x35, x36, x37, x62, x63 => if x63 < x62 then (if 0 ≤ x63 then (if x63 < (x11.length : Int) then (if x63 < (x13.length : Int) then ((gleberef7_SameToks.f k (rd_L4 x11 x63) (rd_L4 x13 x63)).bind fun t453 => (if t453 = true then (glebelaw9_CsvrTells.l1 k x2 x3 x11 x13 x35 x36 x37 x62 (wrap64 (x63 + 1))) else (none))) else (none)) else (none)) else (none)) else (glebelaw9_CsvrTells.l0 k x2 x3 x35 x36 (wrap64 (x37 + 1)))
def glebelaw9_CsvrTells.l2 : Nat → List (List Int) → Int → List (List ByteArray) → List ByteArray → Int → Int → Option (Bool)
 | 0, _, _, _, _, _, _ => none
 | k + 1, x2, x3, x16, x17, x79, x80 => if x80 < x79 then (if 0 ≤ x80 then (if x80 < (x2.length : Int) then (if ((rd_L7 x2 x80).length : Int) > 300 then ((glebelaw9_awake.f k).bind fun t465 => (some t465)) else (if x17.length < 8796093022208 then ((some (x17 ++ [strOfNums (rd_L7 x2 x80)] : List ByteArray)).bind fun y467 => (if 0 ≤ (IntKind.u64.wrap (x80)) then (if (Go.bits .and .i64 (shr .i64 x3 (IntKind.u64.wrap (x80))) 1) = 1 then (if x16.length < 5864062014805 then (glebelaw9_CsvrTells.l2 k x2 x3 (x16 ++ [y467]) ([] : List ByteArray) x79 (wrap64 (x80 + 1))) else (none)) else (glebelaw9_CsvrTells.l2 k x2 x3 x16 y467 x79 (wrap64 (x80 + 1)))) else (none))) else (none))) else (none)) else (none)) else (if x16.length < 5864062014805 then ((some (x16 ++ [x17] : List (List ByteArray))).bind fun y454 => ((csvr_Print.f k y454).bind fun t457 => ((gleberef7_PrintRecords.f k y454).bind fun t460 => (if (strOfNums t457).toList = (strOfNums t460).toList then ((glebelaw9_awake.f k).bind fun t463 => (some t463)) else (none))))) else (none))
end
def glebelaw9_CsvrTells.f (k : Nat) (l0 : List Int) (l1 : List Int) (l2 : List (List Int)) (a3 : Int) : Option (Bool) := if (l0.length : Int) > 600 then (glebelaw9_CsvrTells.j0 k l0 l1 l2 a3 true) else (glebelaw9_CsvrTells.j0 k l0 l1 l2 a3 (decide ((l2.length : Int) > 30)))
theorem glebelaw9_CsvrTells.mono_l : ∀ k, (∀ y0 y1 y2 y3 y4, LeO (glebelaw9_CsvrTells.j0 k y0 y1 y2 y3 y4) (glebelaw9_CsvrTells.j0 (k + 1) y0 y1 y2 y3 y4)) ∧ (∀ y0 y1 y2 y3 y4, LeO (glebelaw9_CsvrTells.l0 k y0 y1 y2 y3 y4) (glebelaw9_CsvrTells.l0 (k + 1) y0 y1 y2 y3 y4)) ∧ (∀ y0 y1 y2 y3 y4 y5 y6 y7, LeO (glebelaw9_CsvrTells.j2 k y0 y1 y2 y3 y4 y5 y6 y7) (glebelaw9_CsvrTells.j2 (k + 1) y0 y1 y2 y3 y4 y5 y6 y7)) ∧ (∀ y0 y1 y2 y3 y4 y5 y6 y7 y8, LeO (glebelaw9_CsvrTells.l1 k y0 y1 y2 y3 y4 y5 y6 y7 y8) (glebelaw9_CsvrTells.l1 (k + 1) y0 y1 y2 y3 y4 y5 y6 y7 y8)) ∧ (∀ y0 y1 y2 y3 y4 y5, LeO (glebelaw9_CsvrTells.l2 k y0 y1 y2 y3 y4 y5) (glebelaw9_CsvrTells.l2 (k + 1) y0 y1 y2 y3 y4 y5))
 | 0 => ⟨fun _ _ _ _ _ r h => by simp [glebelaw9_CsvrTells.j0] at h, fun _ _ _ _ _ r h => by simp [glebelaw9_CsvrTells.l0] at h, fun _ _ _ _ _ _ _ _ r h => by simp [glebelaw9_CsvrTells.j2] at h, fun _ _ _ _ _ _ _ _ _ r h => by simp [glebelaw9_CsvrTells.l1] at h, fun _ _ _ _ _ _ r h => by simp [glebelaw9_CsvrTells.l2] at h⟩
 | k + 1 => by
  obtain ⟨ih0, ih1, ih2, ih3, ih4⟩ := glebelaw9_CsvrTells.mono_l k
  refine ⟨?_, ?_, ?_, ?_, ?_⟩
  ·intro y0 y1 y2 y3 y4
   unfold glebelaw9_CsvrTells.j0
   repeat' first
   | (with_reducible first | exact ih0 _ _ _ _ _ | exact ih1 _ _ _ _ _ | exact ih2 _ _ _ _ _ _ _ _ | exact ih3 _ _ _ _ _ _ _ _ _ | exact ih4 _ _ _ _ _ _ | exact csvr_Parse.mono _ _ | exact csvr_Print.mono _ _ | exact glebelaw9_Text.mono _ _ | exact glebelaw9_awake.mono _ | exact gleberef7_PrintRecords.mono _ _ | exact gleberef7_Records.mono _ _ | exact gleberef7_SameToks.mono _ _ _ | exact LeO.refl _ | exact LeO.none _ | refine LeO.ite ?_ ?_ | refine LeO.bind ?_ (fun _ => ?_))
   | exact ih0 _ _ _ _ _
   | exact ih1 _ _ _ _ _
   | exact ih2 _ _ _ _ _ _ _ _
   | exact ih3 _ _ _ _ _ _ _ _ _
   | exact ih4 _ _ _ _ _ _
   | exact csvr_Parse.mono _ _
   | exact csvr_Print.mono _ _
   | exact glebelaw9_Text.mono _ _
   | exact glebelaw9_awake.mono _
   | exact gleberef7_PrintRecords.mono _ _
   | exact gleberef7_Records.mono _ _
   | exact gleberef7_SameToks.mono _ _ _
   | exact LeO.none _
   | refine LeO.ite ?_ ?_
   | refine LeO.bind ?_ (fun _ => ?_)
  ·intro y0 y1 y2 y3 y4
   unfold glebelaw9_CsvrTells.l0
   repeat' first
   | (with_reducible first | exact ih0 _ _ _ _ _ | exact ih1 _ _ _ _ _ | exact ih2 _ _ _ _ _ _ _ _ | exact ih3 _ _ _ _ _ _ _ _ _ | exact ih4 _ _ _ _ _ _ | exact csvr_Parse.mono _ _ | exact csvr_Print.mono _ _ | exact glebelaw9_Text.mono _ _ | exact glebelaw9_awake.mono _ | exact gleberef7_PrintRecords.mono _ _ | exact gleberef7_Records.mono _ _ | exact gleberef7_SameToks.mono _ _ _ | exact LeO.refl _ | exact LeO.none _ | refine LeO.ite ?_ ?_ | refine LeO.bind ?_ (fun _ => ?_))
   | exact ih0 _ _ _ _ _
   | exact ih1 _ _ _ _ _
   | exact ih2 _ _ _ _ _ _ _ _
   | exact ih3 _ _ _ _ _ _ _ _ _
   | exact ih4 _ _ _ _ _ _
   | exact csvr_Parse.mono _ _
   | exact csvr_Print.mono _ _
   | exact glebelaw9_Text.mono _ _
   | exact glebelaw9_awake.mono _
   | exact gleberef7_PrintRecords.mono _ _
   | exact gleberef7_Records.mono _ _
   | exact gleberef7_SameToks.mono _ _ _
   | exact LeO.none _
   | refine LeO.ite ?_ ?_
   | refine LeO.bind ?_ (fun _ => ?_)
  ·intro y0 y1 y2 y3 y4 y5 y6 y7
   unfold glebelaw9_CsvrTells.j2
   repeat' first
   | (with_reducible first | exact ih0 _ _ _ _ _ | exact ih1 _ _ _ _ _ | exact ih2 _ _ _ _ _ _ _ _ | exact ih3 _ _ _ _ _ _ _ _ _ | exact ih4 _ _ _ _ _ _ | exact csvr_Parse.mono _ _ | exact csvr_Print.mono _ _ | exact glebelaw9_Text.mono _ _ | exact glebelaw9_awake.mono _ | exact gleberef7_PrintRecords.mono _ _ | exact gleberef7_Records.mono _ _ | exact gleberef7_SameToks.mono _ _ _ | exact LeO.refl _ | exact LeO.none _ | refine LeO.ite ?_ ?_ | refine LeO.bind ?_ (fun _ => ?_))
   | exact ih0 _ _ _ _ _
   | exact ih1 _ _ _ _ _
   | exact ih2 _ _ _ _ _ _ _ _
   | exact ih3 _ _ _ _ _ _ _ _ _
   | exact ih4 _ _ _ _ _ _
   | exact csvr_Parse.mono _ _
   | exact csvr_Print.mono _ _
   | exact glebelaw9_Text.mono _ _
   | exact glebelaw9_awake.mono _
   | exact gleberef7_PrintRecords.mono _ _
   | exact gleberef7_Records.mono _ _
   | exact gleberef7_SameToks.mono _ _ _
   | exact LeO.none _
   | refine LeO.ite ?_ ?_
   | refine LeO.bind ?_ (fun _ => ?_)
  ·intro y0 y1 y2 y3 y4 y5 y6 y7 y8
   unfold glebelaw9_CsvrTells.l1
   repeat' first
   | (with_reducible first | exact ih0 _ _ _ _ _ | exact ih1 _ _ _ _ _ | exact ih2 _ _ _ _ _ _ _ _ | exact ih3 _ _ _ _ _ _ _ _ _ | exact ih4 _ _ _ _ _ _ | exact csvr_Parse.mono _ _ | exact csvr_Print.mono _ _ | exact glebelaw9_Text.mono _ _ | exact glebelaw9_awake.mono _ | exact gleberef7_PrintRecords.mono _ _ | exact gleberef7_Records.mono _ _ | exact gleberef7_SameToks.mono _ _ _ | exact LeO.refl _ | exact LeO.none _ | refine LeO.ite ?_ ?_ | refine LeO.bind ?_ (fun _ => ?_))
   | exact ih0 _ _ _ _ _
   | exact ih1 _ _ _ _ _
   | exact ih2 _ _ _ _ _ _ _ _
   | exact ih3 _ _ _ _ _ _ _ _ _
   | exact ih4 _ _ _ _ _ _
   | exact csvr_Parse.mono _ _
   | exact csvr_Print.mono _ _
   | exact glebelaw9_Text.mono _ _
   | exact glebelaw9_awake.mono _
   | exact gleberef7_PrintRecords.mono _ _
   | exact gleberef7_Records.mono _ _
   | exact gleberef7_SameToks.mono _ _ _
   | exact LeO.none _
   | refine LeO.ite ?_ ?_
   | refine LeO.bind ?_ (fun _ => ?_)
  ·intro y0 y1 y2 y3 y4 y5
   unfold glebelaw9_CsvrTells.l2
   repeat' first
   | (with_reducible first | exact ih0 _ _ _ _ _ | exact ih1 _ _ _ _ _ | exact ih2 _ _ _ _ _ _ _ _ | exact ih3 _ _ _ _ _ _ _ _ _ | exact ih4 _ _ _ _ _ _ | exact csvr_Parse.mono _ _ | exact csvr_Print.mono _ _ | exact glebelaw9_Text.mono _ _ | exact glebelaw9_awake.mono _ | exact gleberef7_PrintRecords.mono _ _ | exact gleberef7_Records.mono _ _ | exact gleberef7_SameToks.mono _ _ _ | exact LeO.refl _ | exact LeO.none _ | refine LeO.ite ?_ ?_ | refine LeO.bind ?_ (fun _ => ?_))
   | exact ih0 _ _ _ _ _
   | exact ih1 _ _ _ _ _
   | exact ih2 _ _ _ _ _ _ _ _
   | exact ih3 _ _ _ _ _ _ _ _ _
   | exact ih4 _ _ _ _ _ _
   | exact csvr_Parse.mono _ _
   | exact csvr_Print.mono _ _
   | exact glebelaw9_Text.mono _ _
   | exact glebelaw9_awake.mono _
   | exact gleberef7_PrintRecords.mono _ _
   | exact gleberef7_Records.mono _ _
   | exact gleberef7_SameToks.mono _ _ _
   | exact LeO.none _
   | refine LeO.ite ?_ ?_
   | refine LeO.bind ?_ (fun _ => ?_)
theorem glebelaw9_CsvrTells.mono : ∀ a0 a1 a2 a3 k, LeO (glebelaw9_CsvrTells.f k a0 a1 a2 a3) (glebelaw9_CsvrTells.f (k + 1) a0 a1 a2 a3) := by
 intro a0 a1 a2 a3 k
 obtain ⟨ih0, ih1, ih2, ih3, ih4⟩ := glebelaw9_CsvrTells.mono_l k
 unfold glebelaw9_CsvrTells.f
 repeat' first
   | (with_reducible first | exact ih0 _ _ _ _ _ | exact ih1 _ _ _ _ _ | exact ih2 _ _ _ _ _ _ _ _ | exact ih3 _ _ _ _ _ _ _ _ _ | exact ih4 _ _ _ _ _ _ | exact csvr_Parse.mono _ _ | exact csvr_Print.mono _ _ | exact glebelaw9_Text.mono _ _ | exact glebelaw9_awake.mono _ | exact gleberef7_PrintRecords.mono _ _ | exact gleberef7_Records.mono _ _ | exact gleberef7_SameToks.mono _ _ _ | exact LeO.refl _ | exact LeO.none _ | refine LeO.ite ?_ ?_ | refine LeO.bind ?_ (fun _ => ?_))
   | exact ih0 _ _ _ _ _
   | exact ih1 _ _ _ _ _
   | exact ih2 _ _ _ _ _ _ _ _
   | exact ih3 _ _ _ _ _ _ _ _ _
   | exact ih4 _ _ _ _ _ _
   | exact csvr_Parse.mono _ _
   | exact csvr_Print.mono _ _
   | exact glebelaw9_Text.mono _ _
   | exact glebelaw9_awake.mono _
   | exact gleberef7_PrintRecords.mono _ _
   | exact gleberef7_Records.mono _ _
   | exact gleberef7_SameToks.mono _ _ _
   | exact LeO.none _
   | refine LeO.ite ?_ ?_
   | refine LeO.bind ?_ (fun _ => ?_)
def glebelaw9_CsvrTells.T13 : Bool × List (List Nat × List Nat) := (true, [([], []), ([], []), ([0, 1], [0, 1]), ([2], [2]), ([], []), ([], []), ([4, 5], [4, 5]), ([6], [6]), ([3, 7], [3, 7]), ([8], [8])])
def glebelaw9_CsvrTells.B13 : List Nat := [0, 0, 3, 7, 0, 0, 48, 112, 255, 511]
theorem glebelaw9_CsvrTells.tab13 : rtab .any (opsOf Tryd.f13 13) = glebelaw9_CsvrTells.T13 := by kernel_rfl
theorem glebelaw9_CsvrTells.bits13 : waitsOk glebelaw9_CsvrTells.T13.2 glebelaw9_CsvrTells.B13 = true := by kernel_rfl
def glebelaw9_CsvrTells.T29 : Bool × List (List Nat × List Nat) := (true, [([], []), ([0], [0]), ([1], [1]), ([], []), ([3, 1], [3]), ([4], [4]), ([2, 5], [2, 5]), ([6, 4], [6]), ([7, 7], [7]), ([7, 8], [7, 8]), ([9, 8, 0, 1, 2, 3, 4, 5, 6, 7, 8, 9], [9])])
def glebelaw9_CsvrTells.B29 : List Nat := [0, 1, 3, 0, 11, 27, 63, 127, 255, 511, 1023]
theorem glebelaw9_CsvrTells.tab29 : rtab .any (opsOf Tryd.f13 29) = glebelaw9_CsvrTells.T29 := by kernel_rfl
theorem glebelaw9_CsvrTells.bits29 : waitsOk glebelaw9_CsvrTells.T29.2 glebelaw9_CsvrTells.B29 = true := by kernel_rfl
set_option maxHeartbeats 8000000 in
set_option maxRecDepth 100000 in
theorem glebelaw9_CsvrTells.calls (k : Nat) (P0_ : Nat → Prop) (A0 : Option Addr) (c0 : Nat) (l0 : List Int) (A1 : Option Addr) (c1 : Nat) (l1 : List Int) (A2 : Option Addr) (c2 : Nat) (l2 : List (List Int)) (a3 : Int) (r : Bool) (w : World) (hs0 : Kd.V (Kd.int .u8) 5 w w.heap.size (fun k_ => P0_ k_) (.slice A0 l0.length c0) l0) (hr1 : Kd.C (Kd.int .i64) w A1 l1.length l1) (hc1 : l1.length ≤ c1) (hr2 : Kd.C (Kd.slice 5 (Kd.int .u8)) w A2 l2.length l2) (hc2 : l2.length ≤ c2) (hMax : XM.Tabs w) (h : glebelaw9_CsvrTells.f k l0 l1 l2 a3 = some r) :
  Calls Tryd.prog 13 #[.slice A0 l0.length c0, .slice A1 l1.length c1, .slice A2 l2.length c2, .int .i64 a3] w fun e w' => e = .returned (.bool r) ∧ Below w.heap.size w w' := by
 have hu54 := Tryd.underlying54
 have HO0 := Aside0.mk (show Kd.V (Kd.int .u8) 5 w w.heap.size (fun k_ => (P0_ k_ ∨ w.heap.size ≤ k_)) (.slice A0 l0.length c0) l0 from Kd.V_mono hs0 (fun k_ hk => .inl hk))
 have HR1 := Aside0.mk hr1
 have HC1 := Aside0.mk hc1
 clear hr1 hc1
 have HR2 := Aside0.mk hr2
 have HC2 := Aside0.mk hc2
 clear hr2 hc2
 have HB := Aside0.mk (Below.refl w.heap.size w)
 have H : (if (l0.length : Int) > 600 then (glebelaw9_CsvrTells.j0 k l0 l1 l2 a3 true) else (glebelaw9_CsvrTells.j0 k l0 l1 l2 a3 (decide ((l2.length : Int) > 30)))) = some r := h
 clear h
 have HC5 := Aside0.mk H
 clear H
 go_enter Tryd.func13, Tryd.ntmps13
 go_upto_region 1 with (fail)
 go_cut [26] (fun v26 wc => ∃ (kq : Nat) (x26_4 : Bool), v26 = .bool x26_4 ∧ Aside0 (glebelaw9_CsvrTells.j0 kq l0 l1 l2 a3 x26_4 = some r) ∧ Aside0 (kq ≤ k) ∧ Aside0 (Kd.V (Kd.int .u8) 5 wc w.heap.size (fun k_ => (P0_ k_ ∨ w.heap.size ≤ k_)) (.slice A0 l0.length c0) l0) ∧ Aside0 (Below w.heap.size w wc))
 case first =>
  have H := HC5.out
  clear HC5
  by_cases c6 : (l0.length : Int) > 600
  ·rw [if_pos c6] at H
   have c6b0 := decide_eq_true c6
   have c6b1 : decide (600 < l0.length) = true := decide_eq_true (by omega)
   clear c6
   (first | rw [c6b0] | (simp only [i64_w, i32_w]; rw [c6b0]) | skip)
   have H' := Aside0.mk H
   clear H
   go_wp2
   go_meet
   case rel => exact ⟨_, (true), oR, H', ⟨by first | omega | exact Nat.le_refl _⟩, ⟨fV HO0.out⟩, ⟨fW HB.out⟩⟩
  ·rw [if_neg c6] at H
   have c6b0 := decide_eq_false c6
   have c6b1 : decide (600 < l0.length) = false := decide_eq_false (by omega)
   clear c6
   (first | rw [c6b0] | (simp only [i64_w, i32_w]; rw [c6b0]) | skip)
   have H' := Aside0.mk H
   clear H
   go_wp2
   go_meet
   case rel => exact ⟨_, (decide ((l2.length : Int) > 30)), oR, H', ⟨by first | omega | exact Nat.le_refl _⟩, ⟨fV HO0.out⟩, ⟨fW HB.out⟩⟩
 case rest =>
  clear HC5
  try clear c1; try clear c2; try clear c6; try clear c6b0; try clear c6b1
  obtain ⟨kq, x26_4, rfl, HA, HJ4, HO_0, HB⟩ := hcut
  cases kq with
  | zero => exact absurd HA.out (by simp [glebelaw9_CsvrTells.j0])
  | succ kj4 =>
   have H := HA.out
   clear HA
   simp only [glebelaw9_CsvrTells.j0] at H
   by_cases c7 : x26_4 = true
   ·subst c7
    replace H := iT H
    obtain ⟨t425, A80, H⟩ := bS H
    have A8 := Aside0.mk A80
    clear A80
    obtain rfl := Option.some.inj H
    go_wp2_with (first | ((with_reducible refine gate_callee (f := 34) rfl ?_); refine goesL_ (some 27) rfl rfl Tryd.func34 (by kernel_rfl) rfl #[] rfl oA ?_; (with_reducible refine (glebelaw9_awake.calls kj4  t425 _ ?side1 A8.out).mono ?_); (case side1 => exact XM.Tabs.below hMax (fW HB.out)); rintro e w9 ⟨rfl, hb⟩; refine ⟨_, rfl, ?_⟩; replace HO_0 := Aside0.mk (Kd.V_below (fV HO_0.out) hb); replace HB := Aside0.mk (below_step (fW HB.out) hb); (try clear hb); (try clear hb2); (try clear hk); (try clear hi)))
    go_ret
    exact ⟨oE, fW HB.out⟩
   ·replace c7 := Bool.eq_false_iff.mpr c7
    subst c7
    replace H := iF H
    obtain ⟨t426, A100, H⟩ := bS H
    have A10 := Aside0.mk A100
    clear A100
    obtain ⟨t429, A110, H⟩ := bS H
    have A11 := Aside0.mk A110
    clear A110
    obtain ⟨c12, H⟩ := eT H
    have LMc12 := Aside0.mk c12
    clear c12
    obtain ⟨y432, hy432⟩ : ∃ y_ : List Int, y_ = (t429 ++ l0) := ⟨_, rfl⟩
    replace H : ((some (([l0, t426, y432] : List (List Int)) : List (List Int))).bind fun y435 => (glebelaw9_CsvrTells.l0 kj4 l2 a3 y435 (y435.length : Int) 0)) = some r := by first | (rw [hy432]; with_reducible exact H) | (have H2_ := (Option.bind_some _ _).symm.trans H; rw [hy432]; with_reducible exact H2_) | (have H2_ := (Option.bind_some _ _).symm.trans H; with_reducible exact H2_) | with_reducible exact H | (rw [hy432]; exact H) | exact H
    have Ny432 := Aside0.mk hy432
    clear hy432
    obtain ⟨y435, hy435⟩ : ∃ y_ : List (List Int), y_ = (([l0, t426, y432] : List (List Int))) := ⟨_, rfl⟩
    replace H : (glebelaw9_CsvrTells.l0 kj4 l2 a3 y435 (y435.length : Int) 0) = some r := by first | (rw [hy435]; with_reducible exact H) | (have H2_ := (Option.bind_some _ _).symm.trans H; rw [hy435]; with_reducible exact H2_) | (have H2_ := (Option.bind_some _ _).symm.trans H; with_reducible exact H2_) | with_reducible exact H | (rw [hy435]; exact H) | exact H
    have Ny435 := Aside0.mk hy435
    clear hy435
    have H' := Aside0.mk H
    clear H
    go_wp2_with (first | ((with_reducible refine gate_callee (f := 35) rfl ?_); refine goesL_ (some 30) rfl rfl Tryd.func35 (by kernel_rfl) rfl #[.slice A1 l1.length c1] rfl oA ?_; (with_reducible refine (glebelaw9_Text.calls kj4 _ _ l1 t426 _ ?side1 ?side2 A10.out).mono ?_); (case side1 => exact fC (Kd.C_below HR1.out HB.out)); (case side2 => exact HC1.out); rintro e w13 ⟨v427, rfl, ho0, hb⟩; refine ⟨_, rfl, ?_⟩; replace HO_0 := Aside0.mk (Kd.V_elder' (fV HO_0.out) (Kd.R_base ho0) hb); have HO428 := Aside0.mk (Kd.R_lower (Kd.R_newM (M := fun k_ => (w.heap.size ≤ k_)) ho0 (below_size (fW HB.out)) (fun k_ h_ => h_)) (below_size (fW HB.out))); replace HB := Aside0.mk (below_step (fW HB.out) hb); (try clear hb); (try clear hb2); (try clear hk); (try clear hi); (try clear ho0)) | ((with_reducible refine gate_callee (f := 35) rfl ?_); refine goesL_ (some 32) rfl rfl Tryd.func35 (by kernel_rfl) rfl #[.slice A1 l1.length c1] rfl oA ?_; (with_reducible refine (glebelaw9_Text.calls kj4 _ _ l1 t429 _ ?side1 ?side2 A11.out).mono ?_); (case side1 => exact fC (Kd.C_below HR1.out HB.out)); (case side2 => exact HC1.out); rintro e w14 ⟨v430, rfl, ho0, hb⟩; refine ⟨_, rfl, ?_⟩; replace HO_0 := Aside0.mk (Kd.V_elder' (fV HO_0.out) (Kd.R_base ho0) hb); have HO431 := Aside0.mk (Kd.R_lower (Kd.R_new' (Kd.R_newM (M := fun k_ => (w.heap.size ≤ k_)) ho0 (below_size (fW HB.out)) (fun k_ h_ => h_)) (Kd.R_lt (fR HO428.out))) (below_size (fW HB.out))); replace HO428 := Aside0.mk (Kd.R_elder' (fR HO428.out) (Kd.R_base ho0) hb); replace HB := Aside0.mk (below_step (fW HB.out) hb); (try clear hb); (try clear hb2); (try clear hk); (try clear hi); (try clear ho0)) | ((with_reducible refine gate_builtin (b := .append) (xs := #[.tmp 32, .tmp 33]) rfl ?_); (try (refine gate_guard (by rfl) ?_; dsimp only)); at_builtin; refine Kd.R_append_rows (Kd.int .u8) (w0 := w) w.heap.size rfl (.tmp 32) (.tmp 33) 35 5 (.int .u8 0) 1 rfl Tryd.underlying35 info5 rfl (by decide) (by omega) v430 t429 l0 _ _ _ (fun k_ => (w.heap.size ≤ k_) ∧ some k_ ≠ (v427 : Value).ownBlock) (fun _ => False) rfl rfl ?aO ?aR (fun _ _ h => h) (fun _ h => h.elim) ?aF ?aB ?aS ?aL ?_; (case aR => repeat (first | exact (Kd.V_reads' HO_0.out).2.2 | (with_reducible refine Kd.C_alloc ?_ _) | (with_reducible refine Kd.C_drewN ?_ _) | (with_reducible refine Kd.C_drew ?_))); (case aB => exact (fW HB.out)); (case aF => exact (fun k_ hk => ⟨(Nat.le_trans (below_size (fW HB.out)) hk), Kd.fresh' (Kd.R_lt (fR HO428.out)) k_ hk⟩)); (case aO => exact (by refine fR (h := ?_); exact Kd.R_mono HO431.out (fun _ hk => ⟨hk.1.1, hk.2⟩))); (case aS => exact (below_size (fW HB.out))); (case aL => have := LMc12.out; omega); intro v433 w15 ho hb hg hat; rw [← Ny432.out] at ho; replace HO_0 := Aside0.mk (Kd.V_afterv (ok := (fun k_ => (P0_ k_ ∨ w.heap.size ≤ k_) ∧ some k_ ≠ (v427 : Value).ownBlock)) (fV HO_0.out) hg hat); replace HO428 := Aside0.mk (Kd.R_after (ok := (fun k_ => (w.heap.size ≤ k_))) (by refine fR (h := ?_); exact Kd.R_mono HO428.out (fun _ hk => ⟨hk.1.1, hk.2⟩)) hg hat); replace HB := Aside0.mk (hb); have HO434 := Aside0.mk (ho); clear HO431; clear ho hb hg hat; obtain ⟨Ao16, co16, eo16⟩ := Kd.R_slice HO428.out; subst eo16; obtain ⟨Ao17, co17, eo17⟩ := Kd.R_slice HO434.out; subst eo17) | ((with_reducible refine gate_dst (N := 35) rfl ?_); (try (refine gate_guard (by rfl) ?_; dsimp only)); refine Kd.N_lit (Kd.slice 5 (Kd.int .u8)) _ 35 ?hg (N' := 35) ?hd (xs := ([l0, t426, y432] : List (List Int))) (inner := [.slice A0 l0.length c0, .slice Ao16 t426.length co16, .slice Ao17 y432.length co17]) (ok := (fun k_ => (P0_ k_ ∨ w.heap.size ≤ k_))) (okp := (fun k_ => (P0_ k_ ∨ w.heap.size ≤ k_))) ?hr ?hp (fun _ hk => hk) ((show ∀ k_, w15.heap.size ≤ k_ → (fun k_ => (P0_ k_ ∨ w.heap.size ≤ k_)) k_ from fun k_ hk => (.inr (Nat.le_trans (below_size (fW HB.out)) hk))) _ (Nat.le_refl _)) (Below.refl _ _) (Nat.le_refl _) (by simp) ?_; (case hd => rfl); (case hg => rfl); (case hr => first | (go_simp; done) | (go_simp; rfl)); (case hp => exact (Reps.one (show Kd.FK (Kd.slice 5 (Kd.int .u8)) _ _ l0 [.slice A0 l0.length c0] from (Kd.FK_slice_mk (Kd.V_reads' (Kd.V_mono (ok' := (fun k_ => (P0_ k_ ∨ w.heap.size ≤ k_))) (HO_0.out) (fun k_ hk => hk.1.1))).2.1 (Kd.V_F (Kd.V_mono (ok' := (fun k_ => (P0_ k_ ∨ w.heap.size ≤ k_))) (HO_0.out) (fun k_ hk => hk.1.1))))) (Reps.one (show Kd.FK (Kd.slice 5 (Kd.int .u8)) _ _ t426 [.slice Ao16 t426.length co16] from (Kd.FK_slice_mk (Kd.R_reads' (Kd.R_mono (ok' := (fun k_ => (P0_ k_ ∨ w.heap.size ≤ k_))) (HO428.out) (fun k_ hk => (.inr (hk.1))))).2.1 (Kd.R_F (Kd.R_mono (ok' := (fun k_ => (P0_ k_ ∨ w.heap.size ≤ k_))) (HO428.out) (fun k_ hk => (.inr (hk.1))))))) (Reps.one (show Kd.FK (Kd.slice 5 (Kd.int .u8)) _ _ y432 [.slice Ao17 y432.length co17] from (Kd.FK_slice_mk (Kd.R_reads' (Kd.R_mono (ok' := (fun k_ => (P0_ k_ ∨ w.heap.size ≤ k_))) (HO434.out) (fun k_ hk => (.inr (hk.1))))).2.1 (Kd.R_F (Kd.R_mono (ok' := (fun k_ => (P0_ k_ ∨ w.heap.size ≤ k_))) (HO434.out) (fun k_ hk => (.inr (hk.1))))))) (Reps.none _ _))))); intro v436 w18 ho19 hb hg_ hnew_; clear hg_ hnew_; (first | rw [← Ny435.out] at ho19 | (simp only [Int.reduceToNat] at ho19; rw [← Ny435.out] at ho19)); replace HO_0 := Aside0.mk (Kd.V_elder' (fV HO_0.out) (Kd.N_base ho19) hb); have HO437 := Aside0.mk (Kd.N_lower ho19 (below_size (fW HB.out))); replace HB := Aside0.mk (below_step (fW HB.out) hb); clear HO428 HO434; clear hb ho19; obtain ⟨Ao20, co20, eo20⟩ := Kd.N_slice HO437.out; subst eo20))
    go_loopg [37] kj4 (fun kq v37 w' => ∃ (x37_2 : Int), v37 = .int .i64 x37_2 ∧ Aside0 (glebelaw9_CsvrTells.l0 kq l2 a3 y435 (y435.length : Int) x37_2 = some r) ∧ Aside0 (kq ≤ kj4) ∧ Aside0 (Kd.N (Kd.slice 5 (Kd.int .u8)) 35 w' w.heap.size (fun k_ => (P0_ k_ ∨ w.heap.size ≤ k_)) (.slice Ao20 y435.length co20) y435) ∧ Aside0 (Below w.heap.size w w'))
    case atStart => exact ⟨(0), oR, H', ⟨Nat.le_refl _⟩, ⟨fN HO437.out⟩, ⟨fW HB.out⟩⟩
    case round =>
     clear H'
     try clear c1; try clear c2; try clear c6; try clear c6b0; try clear c6b1; try clear c7; try clear c12
     obtain ⟨x37_2, rfl, HA, HK2, HO_35, HB⟩ := hrel
     cases gk with
     | zero => exact absurd HA.out (by simp [glebelaw9_CsvrTells.l0])
     | succ k2 =>
      have H := HA.out
      clear HA
      simp only [glebelaw9_CsvrTells.l0] at H
      by_cases c21 : x37_2 < (y435.length : Int)
      ·rw [if_pos c21] at H
       have c21b0 := decide_eq_true c21
       clear c21
       obtain ⟨c22, H⟩ := eT H
       have c22b0 := decide_eq_true c22
       clear c22
       obtain ⟨c23, H⟩ := eT H
       have c23b0 := decide_eq_true c23
       clear c23
       obtain ⟨⟨t439, t442, t443⟩, A240, H⟩ := bS H
       dsimp only at H
       have A24 := Aside0.mk A240
       clear A240
       obtain ⟨⟨t445, t448, t449⟩, A250, H⟩ := bS H
       dsimp only at H
       have A25 := Aside0.mk A250
       clear A250
       have HC26 := Aside0.mk H
       clear H
       have p438 : 0 ≤ (x37_2 : Int) := oD
       have q438 : x37_2 < (y435.length : Int) := oD
       obtain ⟨ad438, A438_0, c438_0, e438, hx438_0, hl438_0, hi438_0⟩ := at_L7 (Kd.N_reads' HO_35.out).2.2 x37_2 p438 q438
       cases e438
       obtain ⟨ce438, hce438, hMe438, hcc438⟩ := Kd.N_get HO_35.out [] x37_2 p438 (by first | exact q438 | exact oD | (have e_ := (Kd.N_reads' HO_35.out).1; omega))
       obtain ⟨ua438_0, uc438_0, rfl, ul438_0, ge438_0⟩ := Kd.FK_slice_open hMe438
       have hv438_0 := hcc438 0 _ rfl
       rw [Nat.add_zero, show ((Kd.slice 5 (Kd.int .u8))).sz = 1 from rfl, Nat.mul_one] at hv438_0
       replace hv438_0 := Option.some.inj (hv438_0.symm.trans hx438_0)
       injection hv438_0 with hva_ hvn_ hvc_
       rw [hva_] at ge438_0
       rw [hvc_] at ul438_0
       have HL438_0 := Aside0.mk (show Kd.V (Kd.int .u8) 5 _ w.heap.size _ _ (rd_L7 y435 x37_2) from Kd.V_mk ul438_0 ge438_0)
       clear hva_ hvn_ hvc_ ge438_0 ul438_0
       clear hcc438 hce438
       have HR438_0 := Aside0.mk hi438_0
       have HC438_0 := Aside0.mk hl438_0
       clear hi438_0 hl438_0
       replace p438 := eq_true p438
       replace q438 := eq_true q438
       go_upto_region 8 with (first | ((with_reducible refine gate_callee (f := 33) rfl ?_); refine goesL_ (some 43) rfl rfl Tryd.func33 (by kernel_rfl) rfl #[.slice A438_0 (rd_L7 y435 x37_2).length c438_0] rfl oA ?_; (with_reducible refine (csvr_Parse.calls k2 _ _ (rd_L7 y435 x37_2) t439 t442 t443 _ ?side1 ?side2 A24.out).mono ?_); (case side1 => repeat (first | exact (by repeat (first | (with_reducible exact HR438_0.out) | (with_reducible refine Kd.C_alloc ?_ _) | (with_reducible refine Kd.C_drewN ?_ _) | (with_reducible refine Kd.C_drew ?_) | exact HR438_0.out)) | (with_reducible refine Kd.C_alloc ?_ _) | (with_reducible refine Kd.C_drewN ?_ _) | (with_reducible refine Kd.C_drew ?_))); (case side2 => exact HC438_0.out); rintro e w27 ⟨v440, rfl, ho0, hb⟩; refine ⟨_, rfl, ?_⟩; replace HL438_0 := Aside0.mk (Kd.V_elder' (fV HL438_0.out) (Kd.S_base ho0) hb); have HO441 := Aside0.mk (Kd.N_lower (Kd.N_mono (ok' := fun k_ => (P0_ k_ ∨ w.heap.size ≤ k_) ∧ some k_ ≠ (.slice (some ad438) y435.length co20 : Value).ownBlock) (Kd.S_N (Kd.S_bound ho0)) (fun k_ hk_ => ⟨(.inr (Nat.le_trans (below_size (fW HB.out)) hk_.2.1)), (Kd.fresh' (Kd.N_lt (fN HO_35.out)) k_ hk_.2.1)⟩)) (below_size (fW HB.out))); replace HO_35 := Aside0.mk (Kd.N_elder' (fN HO_35.out) (Kd.S_base ho0) hb); replace HR438_0 := Aside0.mk (Kd.C_below (by repeat (first | (with_reducible exact HR438_0.out) | (with_reducible refine Kd.C_alloc ?_ _) | (with_reducible refine Kd.C_drewN ?_ _) | (with_reducible refine Kd.C_drew ?_) | exact HR438_0.out)) hb); replace HB := Aside0.mk (below_step (fW HB.out) hb); (try clear hb); (try clear hb2); (try clear hk); (try clear hi); (try clear ho0)) | ((with_reducible refine gate_dst (N := 12) rfl ?_); (try (refine gate_guard (by rfl) ?_; dsimp only)); refine bE (N := 12) (cs := #[.int .i64 0, .int .i64 0]) (t := 54) (h := ?_); intro gb444 hg w28 hbox hb; replace HO_35 := Aside0.mk (Kd.N_below (Kd.N_elderB (fN HO_35.out) gb444 (Nat.le_of_eq hg.symm)) hb); replace HL438_0 := Aside0.mk (Kd.V_below (Kd.V_elderB (fV HL438_0.out) gb444 (Nat.le_of_eq hg.symm)) hb); replace HO441 := Aside0.mk (Kd.N_below (Kd.N_elderB (fN HO441.out) gb444 (Nat.le_of_eq hg.symm)) hb); replace HR438_0 := Aside0.mk (Kd.C_below (by repeat (first | (with_reducible exact HR438_0.out) | (with_reducible refine Kd.C_alloc ?_ _) | (with_reducible refine Kd.C_drewN ?_ _) | (with_reducible refine Kd.C_drew ?_) | exact HR438_0.out)) hb); have BK444 := Aside0.mk (hbox); have GW444 := Aside0.mk (gE hg (fW HB.out)); have GE444 := GW444; replace HB := Aside0.mk (below_step (fW HB.out) hb); clear hb hbox hg; have hcz29_0 : w28.cell? ⟨gb444, 0, none⟩ = some (.int .i64 0) := (blk_cell BK444.out 0).trans rfl; have hcz29_1 : w28.cell? ⟨gb444, 1, none⟩ = some (.int .i64 0) := (blk_cell BK444.out 1).trans rfl; have hfz29_0 := blk_frozen BK444.out 0; have hfz29_1 := blk_frozen BK444.out 1) | ((with_reducible refine gate_callee (f := 36) rfl ?_); refine goesL_ (some 48) rfl rfl Tryd.func36 (by kernel_rfl) rfl #[.slice A438_0 (rd_L7 y435 x37_2).length c438_0] rfl oA ?_; (with_reducible refine (gleberef7_Records.calls k2 _ _ (rd_L7 y435 x37_2) t445 t448 t449 _ ?side1 ?side2 A25.out).mono ?_); (case side1 => repeat (first | exact ((Kd.V_reads' (by refine fV (h := ?_); exact (Kd.V_mono (Kd.V_far (p := ⟨gb444, 1, none⟩) (Kd.V_far (p := ⟨gb444, 0, none⟩) (Kd.V_mono HL438_0.out (fun k_ hk => (⟨hk, hk.2⟩ : _ ∧ k_ ≠ gb444))) (fun _ hk => hk.2) (.int .i64 t442)) (fun _ hk => hk.2) (.int .i64 t443)) (fun _ h_ => h_.1)))).2.2) | (with_reducible refine Kd.C_alloc ?_ _) | (with_reducible refine Kd.C_drewN ?_ _) | (with_reducible refine Kd.C_drew ?_))); (case side2 => exact HC438_0.out); rintro e w30 ⟨v446, rfl, ho0, hb⟩; refine ⟨_, rfl, ?_⟩; have HO447 := Aside0.mk (Kd.N_lower (Kd.N_mono (ok' := fun k_ => (P0_ k_ ∨ w.heap.size ≤ k_) ∧ some k_ ≠ (.slice (some ad438) y435.length co20 : Value).ownBlock ∧ some k_ ≠ (v440 : Value).ownBlock ∧ k_ ≠ gb444) (Kd.S_N (Kd.S_bound ho0)) (fun k_ hk_ => ⟨(.inr (Nat.le_trans (below_size (fW HB.out)) hk_.2.1)), (Kd.fresh' (Kd.N_lt (by refine fN (h := ?_); exact (Kd.N_mono (Kd.N_far (p := ⟨gb444, 1, none⟩) (Kd.N_far (p := ⟨gb444, 0, none⟩) (Kd.N_mono HO_35.out (fun k_ hk => (⟨hk, hk.2⟩ : _ ∧ k_ ≠ gb444))) (fun _ hk => hk.2) (.int .i64 t442)) (fun _ hk => hk.2) (.int .i64 t443)) (fun _ h_ => h_.1)))) k_ hk_.2.1), (Kd.fresh' (Kd.N_lt (by refine fN (h := ?_); exact (Kd.N_mono (Kd.N_far (p := ⟨gb444, 1, none⟩) (Kd.N_far (p := ⟨gb444, 0, none⟩) (Kd.N_mono HO441.out (fun k_ hk => (⟨hk, hk.2⟩ : _ ∧ k_ ≠ gb444))) (fun _ hk => hk.2) (.int .i64 t442)) (fun _ hk => hk.2) (.int .i64 t443)) (fun _ h_ => h_.1)))) k_ hk_.2.1), (Kd.freshB (g := gb444) (o := .cells #[.int .i64 t442, .int .i64 t443] 54 (0, 0)) (by refine fB (h := ?_); refine blk_put (cs := #[.int .i64 t442, .int .i64 0]) ?_ 1 _ rfl; refine fB (h := ?_); refine blk_put (cs := #[.int .i64 0, .int .i64 0]) ?_ 0 _ rfl; refine fB (h := ?_); exact BK444.out) k_ hk_.2.1)⟩)) (below_size (fW HB.out))); replace HO_35 := Aside0.mk (Kd.N_elder' (by refine fN (h := ?_); exact (Kd.N_mono (Kd.N_far (p := ⟨gb444, 1, none⟩) (Kd.N_far (p := ⟨gb444, 0, none⟩) (Kd.N_mono HO_35.out (fun k_ hk => (⟨hk, hk.2⟩ : _ ∧ k_ ≠ gb444))) (fun _ hk => hk.2) (.int .i64 t442)) (fun _ hk => hk.2) (.int .i64 t443)) (fun _ h_ => h_.1))) (Kd.S_base ho0) hb); replace HO441 := Aside0.mk (Kd.N_elder' (by refine fN (h := ?_); exact (Kd.N_mono (Kd.N_far (p := ⟨gb444, 1, none⟩) (Kd.N_far (p := ⟨gb444, 0, none⟩) (Kd.N_mono HO441.out (fun k_ hk => (⟨hk, hk.2⟩ : _ ∧ k_ ≠ gb444))) (fun _ hk => hk.2) (.int .i64 t442)) (fun _ hk => hk.2) (.int .i64 t443)) (fun _ h_ => h_.1))) (Kd.S_base ho0) hb); replace HR438_0 := Aside0.mk (Kd.C_below ((Kd.V_reads' (by refine fV (h := ?_); exact (Kd.V_mono (Kd.V_far (p := ⟨gb444, 1, none⟩) (Kd.V_far (p := ⟨gb444, 0, none⟩) (Kd.V_mono HL438_0.out (fun k_ hk => (⟨hk, hk.2⟩ : _ ∧ k_ ≠ gb444))) (fun _ hk => hk.2) (.int .i64 t442)) (fun _ hk => hk.2) (.int .i64 t443)) (fun _ h_ => h_.1)))).2.2) hb); replace HL438_0 := Aside0.mk (Kd.V_elder' (by refine fV (h := ?_); exact (Kd.V_mono (Kd.V_far (p := ⟨gb444, 1, none⟩) (Kd.V_far (p := ⟨gb444, 0, none⟩) (Kd.V_mono HL438_0.out (fun k_ hk => (⟨hk, hk.2⟩ : _ ∧ k_ ≠ gb444))) (fun _ hk => hk.2) (.int .i64 t442)) (fun _ hk => hk.2) (.int .i64 t443)) (fun _ h_ => h_.1))) (Kd.S_base ho0) hb); replace BK444 := Aside0.mk (blk_below (g := gb444) (o := .cells #[.int .i64 t442, .int .i64 t443] 54 (0, 0)) (by refine fB (h := ?_); refine blk_put (cs := #[.int .i64 t442, .int .i64 0]) ?_ 1 _ rfl; refine fB (h := ?_); refine blk_put (cs := #[.int .i64 0, .int .i64 0]) ?_ 0 _ rfl; refine fB (h := ?_); exact BK444.out) hb); replace HB := Aside0.mk (below_step (fW HB.out) hb); (try clear hb); (try clear hb2); (try clear hk); (try clear hi); (try clear ho0)) | ((with_reducible refine gate_dst (N := 14) rfl ?_); (try (refine gate_guard (by rfl) ?_; dsimp only)); refine bE (N := 14) (cs := #[.int .i64 0, .int .i64 0]) (t := 54) (h := ?_); intro gb450 hg w31 hbox hb; replace HO_35 := Aside0.mk (Kd.N_below (Kd.N_elderB (fN HO_35.out) gb450 (Nat.le_of_eq hg.symm)) hb); replace HL438_0 := Aside0.mk (Kd.V_below (Kd.V_elderB (fV HL438_0.out) gb450 (Nat.le_of_eq hg.symm)) hb); replace HO441 := Aside0.mk (Kd.N_below (Kd.N_elderB (fN HO441.out) gb450 (Nat.le_of_eq hg.symm)) hb); replace HO447 := Aside0.mk (Kd.N_below (Kd.N_elderB (fN HO447.out) gb450 (Nat.le_of_eq hg.symm)) hb); replace HR438_0 := Aside0.mk (Kd.C_below (by repeat (first | (with_reducible exact HR438_0.out) | (with_reducible refine Kd.C_alloc ?_ _) | (with_reducible refine Kd.C_drewN ?_ _) | (with_reducible refine Kd.C_drew ?_) | exact HR438_0.out)) hb); have BK450 := Aside0.mk (hbox); have GW450 := Aside0.mk (gE hg (fW HB.out)); have GE450 := GW450; replace HB := Aside0.mk (below_step (fW HB.out) hb); have NB444_450 := Aside0.mk ((by rw [hg]; exact Nat.ne_of_lt (blk_lt (g := gb444) (o := .cells #[.int .i64 t442, .int .i64 t443] 54 (0, 0)) (fB BK444.out)) : gb444 ≠ gb450)); have NB450_444 := Aside0.mk ((by rw [hg]; exact Nat.ne_of_gt (blk_lt (g := gb444) (o := .cells #[.int .i64 t442, .int .i64 t443] 54 (0, 0)) (fB BK444.out)) : gb450 ≠ gb444)); replace BK444 := Aside0.mk (blk_below (fB BK444.out) hb); clear hb hbox hg; have hnb32 := NB450_444.out; have hnc32 := NB444_450.out; have hcz33_0 : w31.cell? ⟨gb450, 0, none⟩ = some (.int .i64 0) := (blk_cell BK450.out 0).trans rfl; have hcz33_1 : w31.cell? ⟨gb450, 1, none⟩ = some (.int .i64 0) := (blk_cell BK450.out 1).trans rfl; have hfz33_0 := blk_frozen BK450.out 0; have hfz33_1 := blk_frozen BK450.out 1))
       (try simp only [Act.put, List.setIfInBounds_toArray, List.set_cons_zero, List.set_cons_succ])
       go_cut [60] (fun v60 wc => ∃ (kq : Nat) (x60_25 : Bool), v60 = .bool x60_25 ∧ Aside0 (glebelaw9_CsvrTells.j2 kq l2 a3 t439 t445 y435 (y435.length : Int) x37_2 x60_25 = some r) ∧ Aside0 (kq ≤ k2) ∧ Aside0 (Kd.N (Kd.slice 59 k59) 57 wc w.heap.size (fun k_ => (P0_ k_ ∨ w.heap.size ≤ k_) ∧ some k_ ≠ (v446 : Value).ownBlock ∧ some k_ ≠ ((.slice (some ad438) y435.length co20) : Value).ownBlock ∧ k_ ≠ gb444 ∧ k_ ≠ gb450) v440 t439) ∧ Aside0 (Kd.N (Kd.slice 59 k59) 57 wc w.heap.size (fun k_ => (P0_ k_ ∨ w.heap.size ≤ k_) ∧ some k_ ≠ (v440 : Value).ownBlock ∧ some k_ ≠ ((.slice (some ad438) y435.length co20) : Value).ownBlock ∧ k_ ≠ gb444 ∧ k_ ≠ gb450) v446 t445) ∧ Aside0 (Kd.N (Kd.slice 5 (Kd.int .u8)) 35 wc w.heap.size (fun k_ => (P0_ k_ ∨ w.heap.size ≤ k_) ∧ some k_ ≠ (v440 : Value).ownBlock ∧ some k_ ≠ (v446 : Value).ownBlock ∧ k_ ≠ gb444 ∧ k_ ≠ gb450) (.slice (some ad438) y435.length co20) y435) ∧ Aside0 (wc.heap[gb444]? = some (.cells #[.int .i64 t442, .int .i64 t443] 54 (0, 0))) ∧ Aside0 (wc.heap[gb450]? = some (.cells #[.int .i64 t448, .int .i64 t449] 54 (0, 0))) ∧ Aside0 (Kd.C (Kd.int .u8) wc A438_0 (rd_L7 y435 x37_2).length (rd_L7 y435 x37_2)) ∧ Aside0 (Below w.heap.size w wc))
       case first =>
        have H := HC26.out
        clear HC26
        by_cases c34 : (!(t442 == t448) || (!(t443 == t449))) = true
        ·rw [if_pos c34] at H
         have c34b0 : (!(t442 == t448) || (!(t443 == t449))) = true := c34
         clear c34
         (first | rw [c34b0] | (simp only [i64_w, i32_w]; rw [c34b0]) | skip)
         have H' := Aside0.mk H
         clear H
         have hnb35 := NB444_450.out
         have hnc35 := NB450_444.out
         have hcz36_0 : w31.cell? ⟨gb444, 0, none⟩ = some (.int .i64 t442) := (blk_cell BK444.out 0).trans rfl
         have hcz36_1 : w31.cell? ⟨gb444, 1, none⟩ = some (.int .i64 t443) := (blk_cell BK444.out 1).trans rfl
         have hfz36_0 := blk_frozen BK444.out 0
         have hfz36_1 := blk_frozen BK444.out 1
         have hcz37_0 : w31.cell? ⟨gb450, 0, none⟩ = some (.int .i64 0) := (blk_cell BK450.out 0).trans rfl
         have hcz37_1 : w31.cell? ⟨gb450, 1, none⟩ = some (.int .i64 0) := (blk_cell BK450.out 1).trans rfl
         have hfz37_0 := blk_frozen BK450.out 0
         have hfz37_1 := blk_frozen BK450.out 1
         go_wp2
         go_meet
         case rel => exact ⟨_, (true), oR, H', ⟨by have := HJ4.out; have := HK2.out; first | omega | exact Nat.le_refl _⟩, ⟨by refine fN (h := ?_); exact Kd.N_mono (Kd.N_far (p := ⟨gb450, 1, none⟩) (Kd.N_far (p := ⟨gb450, 0, none⟩) (Kd.N_mono HO441.out (fun k_ hk => (⟨hk, hk.2⟩ : _ ∧ k_ ≠ gb450))) (fun _ hk => hk.2) (.int .i64 t448)) (fun _ hk => hk.2) (.int .i64 t449)) (fun _ hk => ⟨hk.1.1.1.1.1, ⟨hk.1.1.2, ⟨hk.1.1.1.1.2, ⟨hk.1.1.1.2, hk.1.2⟩⟩⟩⟩)⟩, ⟨by refine fN (h := ?_); exact Kd.N_mono (Kd.N_far (p := ⟨gb450, 1, none⟩) (Kd.N_far (p := ⟨gb450, 0, none⟩) (Kd.N_mono HO447.out (fun k_ hk => (⟨hk, hk.2⟩ : _ ∧ k_ ≠ gb450))) (fun _ hk => hk.2) (.int .i64 t448)) (fun _ hk => hk.2) (.int .i64 t449)) (fun _ hk => ⟨hk.1.1.1, ⟨hk.1.1.2.2.1, ⟨hk.1.1.2.1, ⟨hk.1.1.2.2.2, hk.1.2⟩⟩⟩⟩)⟩, ⟨by refine fN (h := ?_); exact Kd.N_mono (Kd.N_far (p := ⟨gb450, 1, none⟩) (Kd.N_far (p := ⟨gb450, 0, none⟩) (Kd.N_mono HO_35.out (fun k_ hk => (⟨hk, hk.2⟩ : _ ∧ k_ ≠ gb450))) (fun _ hk => hk.2) (.int .i64 t448)) (fun _ hk => hk.2) (.int .i64 t449)) (fun _ hk => ⟨hk.1.1.1.1.1, ⟨hk.1.1.1.1.2, ⟨hk.1.1.2, ⟨hk.1.1.1.2, hk.1.2⟩⟩⟩⟩)⟩, ⟨by refine fB (h := ?_); refine blk_far ?_ NB444_450.out _; refine fB (h := ?_); refine blk_far ?_ NB444_450.out _; refine fB (h := ?_); exact BK444.out⟩, ⟨by refine fB (h := ?_); refine blk_put (cs := #[.int .i64 t448, .int .i64 0]) ?_ 1 _ rfl; refine fB (h := ?_); refine blk_put (cs := #[.int .i64 0, .int .i64 0]) ?_ 0 _ rfl; refine fB (h := ?_); exact BK450.out⟩, ⟨(Kd.V_reads' (by refine fV (h := ?_); exact (Kd.V_mono (Kd.V_far (p := ⟨gb450, 1, none⟩) (Kd.V_far (p := ⟨gb450, 0, none⟩) (Kd.V_mono HL438_0.out (fun k_ hk => (⟨hk, hk.2⟩ : _ ∧ k_ ≠ gb450))) (fun _ hk => hk.2) (.int .i64 t448)) (fun _ hk => hk.2) (.int .i64 t449)) (fun _ h_ => h_.1)))).2.2⟩, ⟨fW HB.out⟩⟩
        ·rw [if_neg c34] at H
         have c34b0 : (!(t442 == t448) || (!(t443 == t449))) = false := by simpa using c34
         clear c34
         (first | rw [c34b0] | (simp only [i64_w, i32_w]; rw [c34b0]) | skip)
         have H' := Aside0.mk H
         clear H
         have hnb38 := NB444_450.out
         have hnc38 := NB450_444.out
         have hcz39_0 : w31.cell? ⟨gb444, 0, none⟩ = some (.int .i64 t442) := (blk_cell BK444.out 0).trans rfl
         have hcz39_1 : w31.cell? ⟨gb444, 1, none⟩ = some (.int .i64 t443) := (blk_cell BK444.out 1).trans rfl
         have hfz39_0 := blk_frozen BK444.out 0
         have hfz39_1 := blk_frozen BK444.out 1
         have hcz40_0 : w31.cell? ⟨gb450, 0, none⟩ = some (.int .i64 0) := (blk_cell BK450.out 0).trans rfl
         have hcz40_1 : w31.cell? ⟨gb450, 1, none⟩ = some (.int .i64 0) := (blk_cell BK450.out 1).trans rfl
         have hfz40_0 := blk_frozen BK450.out 0
         have hfz40_1 := blk_frozen BK450.out 1
         obtain ⟨Ao41, co41, eo41⟩ := Kd.N_slice HO441.out
         subst eo41
         obtain ⟨Ao42, co42, eo42⟩ := Kd.N_slice HO447.out
         subst eo42
         go_wp2
         go_meet
         case rel => exact ⟨_, (((t439.length : Int) != (t445.length : Int))), oR, H', ⟨by have := HJ4.out; have := HK2.out; first | omega | exact Nat.le_refl _⟩, ⟨by refine fN (h := ?_); exact Kd.N_mono (Kd.N_far (p := ⟨gb450, 1, none⟩) (Kd.N_far (p := ⟨gb450, 0, none⟩) (Kd.N_mono HO441.out (fun k_ hk => (⟨hk, hk.2⟩ : _ ∧ k_ ≠ gb450))) (fun _ hk => hk.2) (.int .i64 t448)) (fun _ hk => hk.2) (.int .i64 t449)) (fun _ hk => ⟨hk.1.1.1.1.1, ⟨hk.1.1.2, ⟨hk.1.1.1.1.2, ⟨hk.1.1.1.2, hk.1.2⟩⟩⟩⟩)⟩, ⟨by refine fN (h := ?_); exact Kd.N_mono (Kd.N_far (p := ⟨gb450, 1, none⟩) (Kd.N_far (p := ⟨gb450, 0, none⟩) (Kd.N_mono HO447.out (fun k_ hk => (⟨hk, hk.2⟩ : _ ∧ k_ ≠ gb450))) (fun _ hk => hk.2) (.int .i64 t448)) (fun _ hk => hk.2) (.int .i64 t449)) (fun _ hk => ⟨hk.1.1.1, ⟨hk.1.1.2.2.1, ⟨hk.1.1.2.1, ⟨hk.1.1.2.2.2, hk.1.2⟩⟩⟩⟩)⟩, ⟨by refine fN (h := ?_); exact Kd.N_mono (Kd.N_far (p := ⟨gb450, 1, none⟩) (Kd.N_far (p := ⟨gb450, 0, none⟩) (Kd.N_mono HO_35.out (fun k_ hk => (⟨hk, hk.2⟩ : _ ∧ k_ ≠ gb450))) (fun _ hk => hk.2) (.int .i64 t448)) (fun _ hk => hk.2) (.int .i64 t449)) (fun _ hk => ⟨hk.1.1.1.1.1, ⟨hk.1.1.1.1.2, ⟨hk.1.1.2, ⟨hk.1.1.1.2, hk.1.2⟩⟩⟩⟩)⟩, ⟨by refine fB (h := ?_); refine blk_far ?_ NB444_450.out _; refine fB (h := ?_); refine blk_far ?_ NB444_450.out _; refine fB (h := ?_); exact BK444.out⟩, ⟨by refine fB (h := ?_); refine blk_put (cs := #[.int .i64 t448, .int .i64 0]) ?_ 1 _ rfl; refine fB (h := ?_); refine blk_put (cs := #[.int .i64 0, .int .i64 0]) ?_ 0 _ rfl; refine fB (h := ?_); exact BK450.out⟩, ⟨(Kd.V_reads' (by refine fV (h := ?_); exact (Kd.V_mono (Kd.V_far (p := ⟨gb450, 1, none⟩) (Kd.V_far (p := ⟨gb450, 0, none⟩) (Kd.V_mono HL438_0.out (fun k_ hk => (⟨hk, hk.2⟩ : _ ∧ k_ ≠ gb450))) (fun _ hk => hk.2) (.int .i64 t448)) (fun _ hk => hk.2) (.int .i64 t449)) (fun _ h_ => h_.1)))).2.2⟩, ⟨fW HB.out⟩⟩
       case rest =>
        clear HC26
        try clear c1; try clear c2; try clear c6; try clear c6b0; try clear c6b1; try clear c7; try clear c12; try clear c21; try clear c21b0; try clear c22; try clear c22b0; try clear c23; try clear c23b0; try clear c34; try clear c34b0; try clear hcz29_0; try clear hcz29_1; try clear hcz33_0; try clear hcz33_1; try clear hcz36_0; try clear hcz36_1; try clear hcz37_0; try clear hcz37_1; try clear hcz39_0; try clear hcz39_1; try clear hcz40_0; try clear hcz40_1; try clear hfz29_0; try clear hfz29_1; try clear hfz33_0; try clear hfz33_1; try clear hfz36_0; try clear hfz36_1; try clear hfz37_0; try clear hfz37_1; try clear hfz39_0; try clear hfz39_1; try clear hfz40_0; try clear hfz40_1; try clear hx438_0; try clear p438; try clear q438
        obtain ⟨kq, x60_25, rfl, HA, HJ25, HO_11, HO_13, HO_35, BK444, BK450, HR438_0, HB⟩ := hcut
        cases kq with
        | zero => exact absurd HA.out (by simp [glebelaw9_CsvrTells.j2])
        | succ kj25 =>
         have H := HA.out
         clear HA
         simp only [glebelaw9_CsvrTells.j2] at H
         by_cases c43 : x60_25 = true
         ·subst c43
          replace H := iT H
          exact absurd H (by simp)
         ·replace c43 := Bool.eq_false_iff.mpr c43
          subst c43
          replace H := iF H
          have H' := Aside0.mk H
          clear H
          obtain ⟨Ao44, co44, eo44⟩ := Kd.N_slice HO_11.out
          subst eo44
          go_wp2
          go_loopg [63] kj25 (fun kq v63 w' => ∃ (x63_4 : Int), v63 = .int .i64 x63_4 ∧ Aside0 (glebelaw9_CsvrTells.l1 kq l2 a3 t439 t445 y435 (y435.length : Int) x37_2 (t439.length : Int) x63_4 = some r) ∧ Aside0 (kq ≤ kj25) ∧ Aside0 (Kd.N (Kd.slice 59 k59) 57 w' w.heap.size (fun k_ => (P0_ k_ ∨ w.heap.size ≤ k_) ∧ some k_ ≠ (v446 : Value).ownBlock ∧ some k_ ≠ ((.slice (some ad438) y435.length co20) : Value).ownBlock ∧ k_ ≠ gb444 ∧ k_ ≠ gb450) (.slice Ao44 t439.length co44) t439) ∧ Aside0 (Kd.N (Kd.slice 59 k59) 57 w' w.heap.size (fun k_ => (P0_ k_ ∨ w.heap.size ≤ k_) ∧ some k_ ≠ ((.slice Ao44 t439.length co44) : Value).ownBlock ∧ some k_ ≠ ((.slice (some ad438) y435.length co20) : Value).ownBlock ∧ k_ ≠ gb444 ∧ k_ ≠ gb450) v446 t445) ∧ Aside0 (Kd.N (Kd.slice 5 (Kd.int .u8)) 35 w' w.heap.size (fun k_ => (P0_ k_ ∨ w.heap.size ≤ k_) ∧ some k_ ≠ ((.slice Ao44 t439.length co44) : Value).ownBlock ∧ some k_ ≠ (v446 : Value).ownBlock ∧ k_ ≠ gb444 ∧ k_ ≠ gb450) (.slice (some ad438) y435.length co20) y435) ∧ Aside0 (w'.heap[gb444]? = some (.cells #[.int .i64 t442, .int .i64 t443] 54 (0, 0))) ∧ Aside0 (w'.heap[gb450]? = some (.cells #[.int .i64 t448, .int .i64 t449] 54 (0, 0))) ∧ Aside0 (Kd.C (Kd.int .u8) w' A438_0 (rd_L7 y435 x37_2).length (rd_L7 y435 x37_2)) ∧ Aside0 (Below w.heap.size w w'))
          case atStart => exact ⟨(0), oR, H', ⟨Nat.le_refl _⟩, ⟨fN HO_11.out⟩, ⟨fN HO_13.out⟩, ⟨fN HO_35.out⟩, ⟨fB BK444.out⟩, ⟨fB BK450.out⟩, ⟨by repeat (first | (with_reducible exact HR438_0.out) | (with_reducible refine Kd.C_alloc ?_ _) | (with_reducible refine Kd.C_drewN ?_ _) | (with_reducible refine Kd.C_drew ?_) | exact HR438_0.out)⟩, ⟨fW HB.out⟩⟩
          case round =>
           clear H'
           try clear c1; try clear c2; try clear c6; try clear c6b0; try clear c6b1; try clear c7; try clear c12; try clear c21; try clear c21b0; try clear c22; try clear c22b0; try clear c23; try clear c23b0; try clear c34; try clear c34b0; try clear c43; try clear hcz29_0; try clear hcz29_1; try clear hcz33_0; try clear hcz33_1; try clear hcz36_0; try clear hcz36_1; try clear hcz37_0; try clear hcz37_1; try clear hcz39_0; try clear hcz39_1; try clear hcz40_0; try clear hcz40_1; try clear hfz29_0; try clear hfz29_1; try clear hfz33_0; try clear hfz33_1; try clear hfz36_0; try clear hfz36_1; try clear hfz37_0; try clear hfz37_1; try clear hfz39_0; try clear hfz39_1; try clear hfz40_0; try clear hfz40_1; try clear hx438_0; try clear p438; try clear q438
           obtain ⟨x63_4, rfl, HA, HK4, HO_11, HO_13, HO_35, BK444, BK450, HR438_0, HB⟩ := hrel
           cases gk with
           | zero => exact absurd HA.out (by simp [glebelaw9_CsvrTells.l1])
           | succ k4 =>
            have H := HA.out
            clear HA
            simp only [glebelaw9_CsvrTells.l1] at H
            by_cases c45 : x63_4 < (t439.length : Int)
            ·rw [if_pos c45] at H
             have c45b0 := decide_eq_true c45
             clear c45
             obtain ⟨c46, H⟩ := eT H
             have c46b0 := decide_eq_true c46
             clear c46
             obtain ⟨c47, H⟩ := eT H
             have c47b0 := decide_eq_true c47
             clear c47
             obtain ⟨c48, H⟩ := eT H
             have c48b0 := decide_eq_true c48
             clear c48
             obtain ⟨t453, A490, H⟩ := bS H
             have A49 := Aside0.mk A490
             clear A490
             by_cases c50 : t453 = true
             ·subst c50
              replace H := iT H
              have H' := Aside0.mk H
              clear H
              try go_wp2
              have n0_ := Aside0.mk (Kd.N_drew HO_11.out)
              have n1_ := Aside0.mk (Kd.N_drew HO_13.out)
              have n2_ := Aside0.mk (Kd.N_drew HO_35.out)
              have n3_ := Aside0.mk (blk_drew BK444.out)
              have n4_ := Aside0.mk (blk_drew BK450.out)
              have n5_ := Aside0.mk (Kd.C_drew HR438_0.out)
              have n6_ := Aside0.mk (below_drew1 HB.out)
              clear HO_11
              clear HO_13
              clear HO_35
              clear BK444
              clear BK450
              clear HR438_0
              clear HB
              have HO_11 := n0_
              have HO_13 := n1_
              have HO_35 := n2_
              have BK444 := n3_
              have BK450 := n4_
              have HR438_0 := n5_
              have HB := n6_
              clear n0_ n1_ n2_ n3_ n4_ n5_ n6_
              have p451 : 0 ≤ (x63_4 : Int) := oD
              have q451 : x63_4 < (t439.length : Int) := oD
              obtain ⟨ad451, A451_0, c451_0, e451, hx451_0, hl451_0, hi451_0⟩ := at_L4 (Kd.N_reads' HO_11.out).2.2 x63_4 p451 q451
              cases e451
              obtain ⟨ce451, hce451, hMe451, hcc451⟩ := Kd.N_get HO_11.out [] x63_4 p451 (by first | exact q451 | exact oD | (have e_ := (Kd.N_reads' HO_11.out).1; omega))
              obtain ⟨ua451_0, uc451_0, rfl, ul451_0, ge451_0⟩ := Kd.FK_slice_open hMe451
              have hv451_0 := hcc451 0 _ rfl
              rw [Nat.add_zero, show ((Kd.slice 59 k59)).sz = 1 from rfl, Nat.mul_one] at hv451_0
              replace hv451_0 := Option.some.inj (hv451_0.symm.trans hx451_0)
              injection hv451_0 with hva_ hvn_ hvc_
              rw [hva_] at ge451_0
              rw [hvc_] at ul451_0
              have HL451_0 := Aside0.mk (show Kd.V k59 59 _ w.heap.size _ _ (rd_L4 t439 x63_4) from Kd.V_mk ul451_0 ge451_0)
              clear hva_ hvn_ hvc_ ge451_0 ul451_0
              clear hcc451 hce451
              have HR451_0 := Aside0.mk hi451_0
              have HC451_0 := Aside0.mk hl451_0
              clear hi451_0 hl451_0
              replace p451 := eq_true p451
              replace q451 := eq_true q451
              obtain ⟨Ao52, co52, eo52⟩ := Kd.N_slice HO_13.out
              (first | subst eo52 | (injection eo52 with f1_ f2_ f3_; have f4_ := f1_.symm; have f5_ := f3_.symm; clear f1_ f2_ f3_; subst f4_; subst f5_))
              have p452 : 0 ≤ (x63_4 : Int) := oD
              have q452 : x63_4 < (t445.length : Int) := oD
              obtain ⟨ad452, A452_0, c452_0, e452, hx452_0, hl452_0, hi452_0⟩ := at_L4 (Kd.N_reads' HO_13.out).2.2 x63_4 p452 q452
              cases e452
              obtain ⟨ce452, hce452, hMe452, hcc452⟩ := Kd.N_get HO_13.out [] x63_4 p452 (by first | exact q452 | exact oD | (have e_ := (Kd.N_reads' HO_13.out).1; omega))
              obtain ⟨ua452_0, uc452_0, rfl, ul452_0, ge452_0⟩ := Kd.FK_slice_open hMe452
              have hv452_0 := hcc452 0 _ rfl
              rw [Nat.add_zero, show ((Kd.slice 59 k59)).sz = 1 from rfl, Nat.mul_one] at hv452_0
              replace hv452_0 := Option.some.inj (hv452_0.symm.trans hx452_0)
              injection hv452_0 with hva_ hvn_ hvc_
              rw [hva_] at ge452_0
              rw [hvc_] at ul452_0
              have HL452_0 := Aside0.mk (show Kd.V k59 59 _ w.heap.size _ _ (rd_L4 t445 x63_4) from Kd.V_mk ul452_0 ge452_0)
              clear hva_ hvn_ hvc_ ge452_0 ul452_0
              clear hcc452 hce452
              have HR452_0 := Aside0.mk hi452_0
              have HC452_0 := Aside0.mk hl452_0
              clear hi452_0 hl452_0
              replace p452 := eq_true p452
              replace q452 := eq_true q452
              refine start_ (n := 10) (S := fun w' => w'.cell? (ad451.add (x63_4).toNat) = some (.slice A451_0 (rd_L4 t439 x63_4).length c451_0) ∧ w'.cell? (ad452.add (x63_4).toNat) = some (.slice A452_0 (rd_L4 t445 x63_4).length c452_0)) (ds := []) #[false, false, false, false, false, false, false, false, false, false] (by kernel_rfl) rfl rfl ⟨hx451_0, hx452_0⟩ (fun hHeld => ?_); refine with_tabW glebelaw9_CsvrTells.tab13 glebelaw9_CsvrTells.bits13 (fun HT_ HW_ => ?_)
              generalize wr.drew = w51 at HO_11 HO_13 HO_35 BK444 BK450 HR438_0 HB HL451_0 HL452_0 HR451_0 HR452_0 hx451_0 hx452_0 hHeld ⊢
              refine pure_ (i := 0) (N := some 66) (v := ?_) (a' := ?_) #[true, false, false, false, false, false, false, false, false, false] rfl rfl (any_of HT_.out (by kernel_rfl)) (fun _ _ _ h => h) (Or.inl ⟨by rfl, ?_⟩) ?_ ?_
              rotate_left
              ·intro w'
               go_simp
               with_reducible rfl
              rotate_left
              ·refine sP (h := ?_)
               rfl
              refine pure_ (i := 1) (N := some 67) (v := ?_) (a' := ?_) #[true, true, false, false, false, false, false, false, false, false] rfl rfl (any_of HT_.out (by kernel_rfl)) (fun _ _ _ h => h) (Or.inl ⟨by rfl, ?_⟩) ?_ ?_
              rotate_left
              ·intro w'
               go_simp
               with_reducible rfl
              rotate_left
              ·refine sP (h := ?_)
               rfl
              refine pure_ (i := 2) (N := some 68) (v := ?_) (a' := ?_) #[true, true, true, false, false, false, false, false, false, false] rfl rfl (any_of HT_.out (by kernel_rfl)) (fun _ _ _ h => h) (Or.inl ⟨by rfl, ?_⟩) ?_ ?_
              rotate_left
              ·intro w'
               go_simp
               with_reducible rfl
              rotate_left
              ·refine sP (h := ?_)
               rfl
              refine pure_ (i := 4) (N := some 70) (v := ?_) (a' := ?_) #[true, true, true, false, true, false, false, false, false, false] rfl rfl (any_of HT_.out (by kernel_rfl)) (fun _ _ _ h => h) (Or.inl ⟨by rfl, ?_⟩) ?_ ?_
              rotate_left
              ·intro w'
               go_simp
               with_reducible rfl
              rotate_left
              ·refine sP (h := ?_)
               rfl
              refine pure_ (i := 5) (N := some 71) (v := ?_) (a' := ?_) #[true, true, true, false, true, true, false, false, false, false] rfl rfl (any_of HT_.out (by kernel_rfl)) (fun _ _ _ h => h) (Or.inl ⟨by rfl, ?_⟩) ?_ ?_
              rotate_left
              ·intro w'
               go_simp
               with_reducible rfl
              rotate_left
              ·refine sP (h := ?_)
               rfl
              refine pure_ (i := 6) (N := some 72) (v := ?_) (a' := ?_) #[true, true, true, false, true, true, true, false, false, false] rfl rfl (any_of HT_.out (by kernel_rfl)) (fun _ _ _ h => h) (Or.inl ⟨by rfl, ?_⟩) ?_ ?_
              rotate_left
              ·intro w'
               go_simp
               with_reducible rfl
              rotate_left
              ·refine sP (h := ?_)
               rfl
              refine take_ (i := 3) (N := some 69) (v := ?_) (a' := ?_) #[true, true, true, true, true, true, true, false, false, false] rfl rfl (take_ofW HT_.out HW_.out (by kernel_rfl)) (fun _ _ _ h => h) (Or.inl ⟨by rfl, ?_⟩) hHeld ?_ ?_
              rotate_left
              ·rintro w' ⟨s0, s1⟩
               go_simp
               with_reducible rfl
              rotate_left
              ·refine sP (h := ?_)
               rfl
              refine take_ (i := 7) (N := some 73) (v := ?_) (a' := ?_) #[true, true, true, true, true, true, true, true, false, false] rfl rfl (take_ofW HT_.out HW_.out (by kernel_rfl)) (fun _ _ _ h => h) (Or.inl ⟨by rfl, ?_⟩) hHeld ?_ ?_
              rotate_left
              ·rintro w' ⟨s0, s1⟩
               go_simp
               with_reducible rfl
              rotate_left
              ·refine sP (h := ?_)
               rfl
              refine one_ (i := 8) (N := some 74) #[true, true, true, true, true, true, true, true, true, false] rfl rfl (one_of HT_.out (by kernel_rfl)) (by decide) (fun K hK => ?_)
              refine goes_ Tryd.func37 (by kernel_rfl) rfl #[.slice A451_0 (rd_L4 t439 x63_4).length c451_0, .slice A452_0 (rd_L4 t445 x63_4).length c452_0] (by rfl) rfl rfl oA ?_
              with_reducible refine (gleberef7_SameToks.calls k4 _ _ (rd_L4 t439 x63_4) _ _ (rd_L4 t445 x63_4) true _ ?side1 ?side2 ?side3 ?side4 A49.out).mono ?_
              (case side1 => repeat (first | exact (by repeat (first | (with_reducible exact HR451_0.out) | (with_reducible refine Kd.C_alloc ?_ _) | (with_reducible refine Kd.C_drewN ?_ _) | (with_reducible refine Kd.C_drew ?_) | exact HR451_0.out)) | (with_reducible refine Kd.C_alloc ?_ _) | (with_reducible refine Kd.C_drewN ?_ _) | (with_reducible refine Kd.C_drew ?_)))
              (case side2 => exact HC451_0.out)
              (case side3 => repeat (first | exact (by repeat (first | (with_reducible exact HR452_0.out) | (with_reducible refine Kd.C_alloc ?_ _) | (with_reducible refine Kd.C_drewN ?_ _) | (with_reducible refine Kd.C_drew ?_) | exact HR452_0.out)) | (with_reducible refine Kd.C_alloc ?_ _) | (with_reducible refine Kd.C_drewN ?_ _) | (with_reducible refine Kd.C_drew ?_)))
              (case side4 => exact HC452_0.out)
              rintro e w' ⟨rfl, ⟨nd, rfl⟩⟩
              refine ⟨_, rfl, ?_⟩
              refine hK.out _ _ ⟨hHeld.1, hHeld.2⟩ (fun hHeld => ?_)
              clear hK K
              refine norm_ (a' := ?_) ?_ ?_
              rotate_left
              ·show Act.put _ (some 74) _ = _
               refine sP (h := ?_)
               rfl
              refine pure_ (i := 9) (N := some 75) (v := ?_) (a' := ?_) #[true, true, true, true, true, true, true, true, true, true] rfl rfl (any_of HT_.out (by kernel_rfl)) (fun _ _ _ h => h) (Or.inl ⟨by rfl, ?_⟩) ?_ ?_
              rotate_left
              ·intro w'
               go_simp
               with_reducible rfl
              rotate_left
              ·refine sP (h := ?_)
               rfl
              refine done_ (done_of HT_.out (by kernel_rfl)) ?_
              try go_wp2
              go_roundg k4
              case measure => have := HJ4.out; have := HK2.out; have := HJ25.out; have := HK4.out; omega
              case rel => exact ⟨(wrap64 (x63_4 + 1)), oR, H', ⟨by have := HJ4.out; have := HK2.out; have := HJ25.out; have := HK4.out; omega⟩, ⟨fN HO_11.out⟩, ⟨fN HO_13.out⟩, ⟨fN HO_35.out⟩, ⟨fB BK444.out⟩, ⟨fB BK450.out⟩, ⟨by repeat (first | (with_reducible exact HR438_0.out) | (with_reducible refine Kd.C_alloc ?_ _) | (with_reducible refine Kd.C_drewN ?_ _) | (with_reducible refine Kd.C_drew ?_) | exact HR438_0.out)⟩, ⟨fW HB.out⟩⟩
             ·replace c50 := Bool.eq_false_iff.mpr c50
              subst c50
              replace H := iF H
              exact absurd H (by simp)
            ·rw [if_neg c45] at H
             have c45b0 := decide_eq_false c45
             clear c45
             have H' := Aside0.mk H
             clear H
             go_wp2
             go_roundg k4
             case measure => have := HJ4.out; have := HK2.out; have := HJ25.out; have := HK4.out; omega
             case rel => exact ⟨(wrap64 (x37_2 + 1)), oR, H', ⟨by have := HJ4.out; have := HK2.out; have := HJ25.out; have := HK4.out; omega⟩, ⟨by refine fN (h := ?_); exact Kd.N_mono HO_35.out (fun _ hk => hk.1)⟩, ⟨fW HB.out⟩⟩
      ·rw [if_neg c21] at H
       have c21b0 := decide_eq_false c21
       clear c21
       have H' := Aside0.mk H
       clear H
       go_wp2
       go_loopg [16, 17, 80] k2 (fun kq v16 v17 v80 w' => ∃ (x16_3 : List (List ByteArray)) (x17_3 : List ByteArray) (x80_3 : Int), v80 = .int .i64 x80_3 ∧ Aside0 (glebelaw9_CsvrTells.l2 kq l2 a3 x16_3 x17_3 (l2.length : Int) x80_3 = some r) ∧ Aside0 (kq ≤ k2) ∧ Aside0 (Kd.N (Kd.slice 9 Kd.string) 39 w' w.heap.size (fun k_ => (P0_ k_ ∨ w.heap.size ≤ k_) ∧ some k_ ≠ (v17 : Value).ownBlock) v16 x16_3) ∧ Aside0 (Kd.R Kd.string 9 w' w.heap.size (fun k_ => (w.heap.size ≤ k_)) v17 x17_3) ∧ Aside0 (Below w.heap.size w w'))
       case atStart => exact ⟨(([] : List (List ByteArray))), (([] : List ByteArray)), (0), oR, H', ⟨Nat.le_refl _⟩, ⟨by first | exact Kd.S_nil _ _ _ _ _ | exact Kd.N_nil _ _ _ _ _ | exact Kd.V_nil _ _ _ _ _ | exact Kd.Q_nil _ _ _ _ _ | exact Kd.R_nil _ _ _ _ _⟩, ⟨by first | exact Kd.R_nil _ _ _ _ _ | exact Kd.N_nil _ _ _ _ _ | exact Kd.V_nil _ _ _ _ _ | exact Kd.Q_nil _ _ _ _ _ | exact Kd.S_nil _ _ _ _ _⟩, ⟨fW HB.out⟩⟩
       case round =>
        clear H'
        try clear c1; try clear c2; try clear c6; try clear c6b0; try clear c6b1; try clear c7; try clear c12; try clear c21; try clear c21b0; try clear c22; try clear c22b0; try clear c23; try clear c23b0; try clear c34; try clear c34b0; try clear c43; try clear c45; try clear c45b0; try clear c46; try clear c46b0; try clear c47; try clear c47b0; try clear c48; try clear c48b0; try clear c50; try clear hcz29_0; try clear hcz29_1; try clear hcz33_0; try clear hcz33_1; try clear hcz36_0; try clear hcz36_1; try clear hcz37_0; try clear hcz37_1; try clear hcz39_0; try clear hcz39_1; try clear hcz40_0; try clear hcz40_1; try clear hfz29_0; try clear hfz29_1; try clear hfz33_0; try clear hfz33_1; try clear hfz36_0; try clear hfz36_1; try clear hfz37_0; try clear hfz37_1; try clear hfz39_0; try clear hfz39_1; try clear hfz40_0; try clear hfz40_1; try clear hx438_0; try clear hx451_0; try clear hx452_0; try clear p438; try clear p451; try clear p452; try clear q438; try clear q451; try clear q452
        obtain ⟨x16_3, x17_3, x80_3, rfl, HA, HK3, HO_16, HO_17, HB⟩ := hrel
        cases gk with
        | zero => exact absurd HA.out (by simp [glebelaw9_CsvrTells.l2])
        | succ k3 =>
         have H := HA.out
         clear HA
         simp only [glebelaw9_CsvrTells.l2] at H
         by_cases c53 : x80_3 < (l2.length : Int)
         ·rw [if_pos c53] at H
          have c53b0 := decide_eq_true c53
          clear c53
          obtain ⟨c54, H⟩ := eT H
          have c54b0 := decide_eq_true c54
          clear c54
          obtain ⟨c55, H⟩ := eT H
          have c55b0 := decide_eq_true c55
          clear c55
          by_cases c56 : ((rd_L7 l2 x80_3).length : Int) > 300
          ·rw [if_pos c56] at H
           have c56b0 := decide_eq_true c56
           have c56b1 : decide (300 < (rd_L7 l2 x80_3).length) = true := decide_eq_true (by omega)
           clear c56
           obtain ⟨t465, A570, H⟩ := bS H
           have A57 := Aside0.mk A570
           clear A570
           obtain rfl := Option.some.inj H
           have p464 : 0 ≤ (x80_3 : Int) := oD
           have q464 : x80_3 < (l2.length : Int) := oD
           obtain ⟨ad464, A464_0, c464_0, e464, hx464_0, hl464_0, hi464_0⟩ := at_L7 HR2.out x80_3 p464 q464
           cases e464
           replace hx464_0 := (HB.out.cell (World.block_lt_of_cell? w _ hx464_0)).trans hx464_0
           have HR464_0 := Aside0.mk hi464_0
           have HC464_0 := Aside0.mk hl464_0
           clear hi464_0 hl464_0
           replace p464 := eq_true p464
           replace q464 := eq_true q464
           go_wp2_with (first | ((with_reducible refine gate_callee (f := 34) rfl ?_); refine goesL_ (some 89) rfl rfl Tryd.func34 (by kernel_rfl) rfl #[] rfl oA ?_; (with_reducible refine (glebelaw9_awake.calls k3  t465 _ ?side1 A57.out).mono ?_); (case side1 => exact XM.Tabs.below hMax (fW HB.out)); rintro e w58 ⟨rfl, hb⟩; refine ⟨_, rfl, ?_⟩; replace HO_16 := Aside0.mk (Kd.N_below (fN HO_16.out) hb); replace HO_17 := Aside0.mk (Kd.R_below (fR HO_17.out) hb); replace HB := Aside0.mk (below_step (fW HB.out) hb); (try clear hb); (try clear hb2); (try clear hk); (try clear hi)))
           go_ret
           exact ⟨oE, fW HB.out⟩
          ·rw [if_neg c56] at H
           have c56b0 := decide_eq_false c56
           have c56b1 : decide (300 < (rd_L7 l2 x80_3).length) = false := decide_eq_false (by omega)
           clear c56
           obtain ⟨c59, H⟩ := eT H
           have LMc59 := Aside0.mk c59
           clear c59
           obtain ⟨y467, hy467⟩ : ∃ y_ : List ByteArray, y_ = (x17_3 ++ [strOfNums (rd_L7 l2 x80_3)]) := ⟨_, rfl⟩
           replace H : (if 0 ≤ (IntKind.u64.wrap (x80_3)) then (if (Go.bits .and .i64 (shr .i64 a3 (IntKind.u64.wrap (x80_3))) 1) = 1 then (if x16_3.length < 5864062014805 then (glebelaw9_CsvrTells.l2 k3 l2 a3 (x16_3 ++ [y467]) ([] : List ByteArray) (l2.length : Int) (wrap64 (x80_3 + 1))) else (none)) else (glebelaw9_CsvrTells.l2 k3 l2 a3 x16_3 y467 (l2.length : Int) (wrap64 (x80_3 + 1)))) else (none)) = some r := by first | (rw [hy467]; with_reducible exact H) | (have H2_ := (Option.bind_some _ _).symm.trans H; rw [hy467]; with_reducible exact H2_) | (have H2_ := (Option.bind_some _ _).symm.trans H; with_reducible exact H2_) | with_reducible exact H | (rw [hy467]; exact H) | exact H
           have Ny467 := Aside0.mk hy467
           clear hy467
           obtain ⟨ji60, hji60⟩ : ∃ j_ : Int, (IntKind.u64.wrap (x80_3)) = j_ := ⟨_, rfl⟩
           replace H : (if 0 ≤ (ji60) then (if (Go.bits .and .i64 (shr .i64 a3 (ji60)) 1) = 1 then (if x16_3.length < 5864062014805 then (glebelaw9_CsvrTells.l2 k3 l2 a3 (x16_3 ++ [y467]) ([] : List ByteArray) (l2.length : Int) (wrap64 (x80_3 + 1))) else (none)) else (glebelaw9_CsvrTells.l2 k3 l2 a3 x16_3 y467 (l2.length : Int) (wrap64 (x80_3 + 1)))) else (none)) = some r := by first | (rw [hji60] at H; exact H) | (simp only [hji60] at H ⊢; exact H)
           obtain ⟨c61, H⟩ := eT H
           have c61b0 := eq_true c61
           have c61b1 := decide_eq_true c61
           clear c61
           obtain ⟨ji62, hji62⟩ : ∃ j_ : Int, (shr .i64 a3 (ji60)) = j_ := ⟨_, rfl⟩
           replace H : (if (Go.bits .and .i64 (ji62) 1) = 1 then (if x16_3.length < 5864062014805 then (glebelaw9_CsvrTells.l2 k3 l2 a3 (x16_3 ++ [y467]) ([] : List ByteArray) (l2.length : Int) (wrap64 (x80_3 + 1))) else (none)) else (glebelaw9_CsvrTells.l2 k3 l2 a3 x16_3 y467 (l2.length : Int) (wrap64 (x80_3 + 1)))) = some r := by first | (rw [hji62] at H; exact H) | (simp only [hji62] at H ⊢; exact H)
           have hji62_ : (a3 / 2 ^ min (ji60).toNat 64) = ji62 := hji62
           have hji62z : (ji60) ≤ 64 → (a3 / 2 ^ (ji60).toNat) = ji62 := shr_small hji62
           by_cases c63 : (Go.bits .and .i64 (ji62) 1) = 1
           ·rw [if_pos c63] at H
            have c63b0 := qT c63
            have c63b1 := nF c63
            clear c63
            obtain ⟨c64, H⟩ := eT H
            have LMc64 := Aside0.mk c64
            clear c64
            obtain ⟨y470, hy470⟩ : ∃ y_ : List (List ByteArray), y_ = (x16_3 ++ [y467]) := ⟨_, rfl⟩
            replace H : (glebelaw9_CsvrTells.l2 k3 l2 a3 y470 ([] : List ByteArray) (l2.length : Int) (wrap64 (x80_3 + 1))) = some r := by first | (rw [hy470]; with_reducible exact H) | (have H2_ := (Option.bind_some _ _).symm.trans H; rw [hy470]; with_reducible exact H2_) | (have H2_ := (Option.bind_some _ _).symm.trans H; with_reducible exact H2_) | with_reducible exact H | (rw [hy470]; exact H) | exact H
            have Ny470 := Aside0.mk hy470
            clear hy470
            have H' := Aside0.mk H
            clear H
            have p464 : 0 ≤ (x80_3 : Int) := oD
            have q464 : x80_3 < (l2.length : Int) := oD
            obtain ⟨ad464, A464_0, c464_0, e464, hx464_0, hl464_0, hi464_0⟩ := at_L7 HR2.out x80_3 p464 q464
            cases e464
            replace hx464_0 := (HB.out.cell (World.block_lt_of_cell? w _ hx464_0)).trans hx464_0
            have HR464_0 := Aside0.mk hi464_0
            have HC464_0 := Aside0.mk hl464_0
            clear hi464_0 hl464_0
            replace p464 := eq_true p464
            replace q464 := eq_true q464
            have p466 : 0 ≤ (x80_3 : Int) := oD
            have q466 : x80_3 < (l2.length : Int) := oD
            obtain ⟨ad466, A466_0, c466_0, e466, hx466_0, hl466_0, hi466_0⟩ := at_L7 HR2.out x80_3 p466 q466
            obtain rfl : ad464 = ad466 := (by injection e466)
            replace hx466_0 := (HB.out.cell (World.block_lt_of_cell? w _ hx466_0)).trans hx466_0
            have HR466_0 := Aside0.mk hi466_0
            have HC466_0 := Aside0.mk hl466_0
            clear hi466_0 hl466_0
            replace p466 := eq_true p466
            replace q466 := eq_true q466
            have ea_ := Option.some.inj (hx464_0.symm.trans hx466_0)
            injection ea_ with ea_ en_ ec_
            subst ea_
            subst ec_
            clear en_
            have hcv65 := Kd.C_string (P := Tryd.prog) (A := A464_0) (c := c464_0) Tryd.underlying35 Tryd.underlying5 Tryd.underlying9 (Kd.C_below HR466_0.out HB.out)
            go_wp2_with (first | ((with_reducible refine gate_builtin (b := .append) (xs := #[.tmp 90, .tmp 96]) rfl ?_); (try (refine gate_guard (by rfl) ?_; dsimp only)); at_builtin; refine Kd.R_append Kd.string (w0 := w) w.heap.size rfl (.tmp 90) (.tmp 96) 39 9 (.string ⟨#[]⟩) 16 rfl Tryd.underlying39 info9 rfl (by decide) (by omega) u17 x17_3 (strOfNums (rd_L7 l2 x80_3)) [.string (strOfNums (rd_L7 l2 x80_3))] (fun k_ => (w.heap.size ≤ k_)) (fun _ => False) rfl rfl ?aP (fun _ hk => hk.elim) ?aF ?aO ?aB ?aS ?aL ?_; (case aP => exact rfl); (case aB => exact (fW HB.out)); (case aF => exact (fun k_ hk => (Nat.le_trans (below_size (fW HB.out)) hk))); (case aO => exact (fR HO_17.out)); (case aS => exact (below_size (fW HB.out))); (case aL => have := LMc59.out; omega); intro v468 w66 ho hb hg hat; rw [← Ny467.out] at ho; replace HO_16 := Aside0.mk (Kd.N_afterv (ok := (fun k_ => (P0_ k_ ∨ w.heap.size ≤ k_))) (fN HO_16.out) hg hat); replace HB := Aside0.mk (hb); have HO469 := Aside0.mk (ho); clear HO_17; clear ho hb hg hat; obtain ⟨Ao68, co68, eo68⟩ := Kd.R_slice HO469.out; subst eo68) | ((with_reducible refine gate_builtin (b := .append) (xs := #[.tmp 104, .tmp 106]) rfl ?_); (try (refine gate_guard (by rfl) ?_; dsimp only)); at_builtin; refine Kd.N_append (Kd.slice 9 Kd.string) (w0 := w) w.heap.size rfl (.tmp 104) (.tmp 106) 66 39 (.slice none 0 0) 24 rfl Tryd.underlying66 info39 rfl (by decide) (by omega) u16 x16_3 y467 [.slice Ao68 y467.length co68] (fun k_ => (P0_ k_ ∨ w.heap.size ≤ k_)) (fun k_ => ((fun k_ => (P0_ k_ ∨ w.heap.size ≤ k_))) k_ ∧ some k_ ≠ (u16 : Value).ownBlock) rfl rfl ?aP (fun _ hk => hk) ?aF ?aO ?aB ?aS ?aL ?_; (case aP => exact (Kd.FK_slice_mk (Kd.R_reads' (Kd.R_mono (ok' := (fun k_ => ((fun k_ => (P0_ k_ ∨ w.heap.size ≤ k_))) k_ ∧ some k_ ≠ (u16 : Value).ownBlock)) (Kd.R_apart' (HO469.out) (Kd.N_typed HO_16.out) (by decide)) (fun k_ hk => ⟨(.inr (hk.1)), hk.2⟩))).2.1 (Kd.R_F (Kd.R_mono (ok' := (fun k_ => ((fun k_ => (P0_ k_ ∨ w.heap.size ≤ k_))) k_ ∧ some k_ ≠ (u16 : Value).ownBlock)) (Kd.R_apart' (HO469.out) (Kd.N_typed HO_16.out) (by decide)) (fun k_ hk => ⟨(.inr (hk.1)), hk.2⟩))))); (case aB => exact (fW HB.out)); (case aF => exact (fun k_ hk => (.inr (Nat.le_trans (below_size (fW HB.out)) hk)))); (case aO => exact (by refine fN (h := ?_); exact Kd.N_mono HO_16.out (fun _ hk => hk.1))); (case aS => exact (below_size (fW HB.out))); (case aL => have := LMc64.out; omega); intro v471 w67 ho hb hg hat; rw [← Ny470.out] at ho; replace HB := Aside0.mk (hb); have HO472 := Aside0.mk (ho); clear HO_16 HO469; clear ho hb hg hat))
            go_roundg k3
            case measure => have := HJ4.out; have := HK2.out; have := HK3.out; omega
            case rel => exact ⟨(y470), (([] : List ByteArray)), (wrap64 (x80_3 + 1)), oR, H', ⟨by have := HJ4.out; have := HK2.out; have := HK3.out; omega⟩, ⟨by refine fN (h := ?_); exact Kd.N_mono HO472.out (fun _ hk => ⟨hk, (by simp [Value.ownBlock])⟩)⟩, ⟨by first | exact Kd.R_nil _ _ _ _ _ | exact Kd.N_nil _ _ _ _ _ | exact Kd.V_nil _ _ _ _ _ | exact Kd.Q_nil _ _ _ _ _ | exact Kd.S_nil _ _ _ _ _⟩, ⟨fW HB.out⟩⟩
           ·rw [if_neg c63] at H
            have c63b0 : ((Go.bits .and .i64 (ji62) 1) == 1) = false := beq_eq_false_iff_ne.mpr c63
            have c63b1 : ((Go.bits .and .i64 (ji62) 1) != 1) = true := bne_iff_ne.mpr c63
            have H' := Aside0.mk H
            clear H
            have p464 : 0 ≤ (x80_3 : Int) := oD
            have q464 : x80_3 < (l2.length : Int) := oD
            obtain ⟨ad464, A464_0, c464_0, e464, hx464_0, hl464_0, hi464_0⟩ := at_L7 HR2.out x80_3 p464 q464
            cases e464
            replace hx464_0 := (HB.out.cell (World.block_lt_of_cell? w _ hx464_0)).trans hx464_0
            have HR464_0 := Aside0.mk hi464_0
            have HC464_0 := Aside0.mk hl464_0
            clear hi464_0 hl464_0
            replace p464 := eq_true p464
            replace q464 := eq_true q464
            have p466 : 0 ≤ (x80_3 : Int) := oD
            have q466 : x80_3 < (l2.length : Int) := oD
            obtain ⟨ad466, A466_0, c466_0, e466, hx466_0, hl466_0, hi466_0⟩ := at_L7 HR2.out x80_3 p466 q466
            obtain rfl : ad464 = ad466 := (by injection e466)
            replace hx466_0 := (HB.out.cell (World.block_lt_of_cell? w _ hx466_0)).trans hx466_0
            have HR466_0 := Aside0.mk hi466_0
            have HC466_0 := Aside0.mk hl466_0
            clear hi466_0 hl466_0
            replace p466 := eq_true p466
            replace q466 := eq_true q466
            have ea_ := Option.some.inj (hx464_0.symm.trans hx466_0)
            injection ea_ with ea_ en_ ec_
            subst ea_
            subst ec_
            clear en_
            have hcv69 := Kd.C_string (P := Tryd.prog) (A := A464_0) (c := c464_0) Tryd.underlying35 Tryd.underlying5 Tryd.underlying9 (Kd.C_below HR466_0.out HB.out)
            go_wp2_with (first | ((with_reducible refine gate_builtin (b := .append) (xs := #[.tmp 90, .tmp 96]) rfl ?_); (try (refine gate_guard (by rfl) ?_; dsimp only)); at_builtin; refine Kd.R_append Kd.string (w0 := w) w.heap.size rfl (.tmp 90) (.tmp 96) 39 9 (.string ⟨#[]⟩) 16 rfl Tryd.underlying39 info9 rfl (by decide) (by omega) u17 x17_3 (strOfNums (rd_L7 l2 x80_3)) [.string (strOfNums (rd_L7 l2 x80_3))] (fun k_ => (w.heap.size ≤ k_)) (fun _ => False) rfl rfl ?aP (fun _ hk => hk.elim) ?aF ?aO ?aB ?aS ?aL ?_; (case aP => exact rfl); (case aB => exact (fW HB.out)); (case aF => exact (fun k_ hk => (Nat.le_trans (below_size (fW HB.out)) hk))); (case aO => exact (fR HO_17.out)); (case aS => exact (below_size (fW HB.out))); (case aL => have := LMc59.out; omega); intro v468 w70 ho hb hg hat; rw [← Ny467.out] at ho; replace HO_16 := Aside0.mk (Kd.N_afterv (ok := (fun k_ => (P0_ k_ ∨ w.heap.size ≤ k_))) (fN HO_16.out) hg hat); replace HB := Aside0.mk (hb); have HO469 := Aside0.mk (ho); clear HO_17; clear ho hb hg hat))
            go_roundg k3
            case measure => have := HJ4.out; have := HK2.out; have := HK3.out; omega
            case rel => exact ⟨(x16_3), (y467), (wrap64 (x80_3 + 1)), oR, H', ⟨by have := HJ4.out; have := HK2.out; have := HK3.out; omega⟩, ⟨fN HO_16.out⟩, ⟨fR HO469.out⟩, ⟨fW HB.out⟩⟩
         ·rw [if_neg c53] at H
          have c53b0 := decide_eq_false c53
          clear c53
          obtain ⟨c71, H⟩ := eT H
          have LMc71 := Aside0.mk c71
          clear c71
          obtain ⟨y454, hy454⟩ : ∃ y_ : List (List ByteArray), y_ = (x16_3 ++ [x17_3]) := ⟨_, rfl⟩
          replace H : ((csvr_Print.f k3 y454).bind fun t457 => ((gleberef7_PrintRecords.f k3 y454).bind fun t460 => (if (strOfNums t457).toList = (strOfNums t460).toList then ((glebelaw9_awake.f k3).bind fun t463 => (some t463)) else (none)))) = some r := by first | (rw [hy454]; with_reducible exact H) | (have H2_ := (Option.bind_some _ _).symm.trans H; rw [hy454]; with_reducible exact H2_) | (have H2_ := (Option.bind_some _ _).symm.trans H; with_reducible exact H2_) | with_reducible exact H | (rw [hy454]; exact H) | exact H
          have Ny454 := Aside0.mk hy454
          clear hy454
          obtain ⟨t457, A720, H⟩ := bS H
          have A72 := Aside0.mk A720
          clear A720
          obtain ⟨t460, A730, H⟩ := bS H
          have A73 := Aside0.mk A730
          clear A730
          obtain ⟨c74, H⟩ := eT H
          have c74b0 := qL c74
          have c74b1 := nL c74
          clear c74
          obtain ⟨t463, A750, H⟩ := bS H
          have A75 := Aside0.mk A750
          clear A750
          obtain rfl := Option.some.inj H
          obtain ⟨Ao77, co77, eo77⟩ := Kd.R_slice HO_17.out
          subst eo77
          try go_wp2_with (first | ((with_reducible refine gate_builtin (b := .append) (xs := #[.tmp 109, .tmp 111]) rfl ?_); (try (refine gate_guard (by rfl) ?_; dsimp only)); at_builtin; refine Kd.N_append (Kd.slice 9 Kd.string) (w0 := w) w.heap.size rfl (.tmp 109) (.tmp 111) 66 39 (.slice none 0 0) 24 rfl Tryd.underlying66 info39 rfl (by decide) (by omega) u16 x16_3 x17_3 [.slice Ao77 x17_3.length co77] (fun k_ => (P0_ k_ ∨ w.heap.size ≤ k_)) (fun k_ => ((fun k_ => (P0_ k_ ∨ w.heap.size ≤ k_))) k_ ∧ some k_ ≠ (u16 : Value).ownBlock) rfl rfl ?aP (fun _ hk => hk) ?aF ?aO ?aB ?aS ?aL ?_; (case aP => exact (Kd.FK_slice_mk (Kd.R_reads' (Kd.R_mono (ok' := (fun k_ => ((fun k_ => (P0_ k_ ∨ w.heap.size ≤ k_))) k_ ∧ some k_ ≠ (u16 : Value).ownBlock)) (Kd.R_apart' (HO_17.out) (Kd.N_typed HO_16.out) (by decide)) (fun k_ hk => ⟨(.inr (hk.1)), hk.2⟩))).2.1 (Kd.R_F (Kd.R_mono (ok' := (fun k_ => ((fun k_ => (P0_ k_ ∨ w.heap.size ≤ k_))) k_ ∧ some k_ ≠ (u16 : Value).ownBlock)) (Kd.R_apart' (HO_17.out) (Kd.N_typed HO_16.out) (by decide)) (fun k_ hk => ⟨(.inr (hk.1)), hk.2⟩))))); (case aB => exact (fW HB.out)); (case aF => exact (fun k_ hk => (.inr (Nat.le_trans (below_size (fW HB.out)) hk)))); (case aO => exact (by refine fN (h := ?_); exact Kd.N_mono HO_16.out (fun _ hk => hk.1))); (case aS => exact (below_size (fW HB.out))); (case aL => have := LMc71.out; omega); intro v455 w76 ho hb hg hat; rw [← Ny454.out] at ho; replace HB := Aside0.mk (hb); have HO456 := Aside0.mk (ho); clear HO_16 HO_17; clear ho hb hg hat; obtain ⟨Ao78, co78, eo78⟩ := Kd.N_slice HO456.out; subst eo78))
          have n0_ := Aside0.mk (Kd.N_drew HO456.out)
          have n1_ := Aside0.mk (below_drew1 HB.out)
          clear HO456
          clear HB
          have HO456 := n0_
          have HB := n1_
          clear n0_ n1_
          refine start_ (n := 11) (S := fun w' => True) (ds := []) #[false, false, false, false, false, false, false, false, false, false, false] (by kernel_rfl) rfl rfl trivial (fun hHeld => ?_); refine with_tabW glebelaw9_CsvrTells.tab29 glebelaw9_CsvrTells.bits29 (fun HT_ HW_ => ?_)
          generalize w76.drew = w79 at HO456 HB hHeld ⊢
          refine pure_ (i := 0) (N := some 113) (v := ?_) (a' := ?_) #[true, false, false, false, false, false, false, false, false, false, false] rfl rfl (any_of HT_.out (by kernel_rfl)) (fun _ _ _ h => h) (Or.inl ⟨by rfl, ?_⟩) ?_ ?_
          rotate_left
          ·intro w'
           go_simp
           with_reducible rfl
          rotate_left
          ·refine sP (h := ?_)
           rfl
          refine pure_ (i := 3) (N := some 116) (v := ?_) (a' := ?_) #[true, false, false, true, false, false, false, false, false, false, false] rfl rfl (any_of HT_.out (by kernel_rfl)) (fun _ _ _ h => h) (Or.inl ⟨by rfl, ?_⟩) ?_ ?_
          rotate_left
          ·intro w'
           go_simp
           with_reducible rfl
          rotate_left
          ·refine sP (h := ?_)
           rfl
          refine inv_at [1, 2, 4, 5, 6, 7, 8, 9, 10] (fun a0_ b a w' => ∃ (v458 : Value) (v461 : Value), a = putSel a0_ b [(1, 114, v458), (2, 115, .string (strOfNums t457)), (4, 117, v461), (5, 118, .string (strOfNums t460)), (6, 119, .bool ((strOfNums t457).toList == (strOfNums t460).toList)), (7, 120, .bool ((strOfNums t457).toList == (strOfNums t460).toList)), (8, 121, .bool t463), (9, 122, .bool t463), (10, 8, .bool t463)] ∧ (b 1 = false → Kd.N (Kd.slice 9 Kd.string) 39 w' w.heap.size (fun k_ => (P0_ k_ ∨ w.heap.size ≤ k_)) (.slice Ao78 y454.length co78) y454) ∧ (Below w.heap.size w w') ∧ (b 1 = true → Kd.N (Kd.slice 9 Kd.string) 39 w' w.heap.size (fun k_ => (P0_ k_ ∨ w.heap.size ≤ k_)) (.slice Ao78 y454.length co78) y454) ∧ (b 1 = true → Kd.V (Kd.int .u8) 5 w' w.heap.size (fun k_ => (P0_ k_ ∨ w.heap.size ≤ k_) ∧ some k_ ≠ (.slice Ao78 y454.length co78 : Value).ownBlock) v458 t457) ∧ (b 4 = true → Kd.R (Kd.int .u8) 5 w' w.heap.size (fun k_ => (w.heap.size ≤ k_)) v461 t460)) HT_.out HW_.out (by kernel_rfl) (by kernel_rfl) ?_ ?_ ?_
          ·exact ⟨.bool false, .bool false, by simp only [putSel, Bool.false_eq_true, if_false], fun _ => HO456.out, HB.out, fun h_ => absurd h_ (by decide), fun h_ => absurd h_ (by decide), fun h_ => absurd h_ (by decide)⟩
          ·skip
           clear HB HO456
           refine steps_cons ?_ ?_
           ·rintro b a w' ⟨v458, v461, ha, Q_HO456, Q_HB, Q_HO456_e1, Q_HO459, Q_HO462⟩ hb_ hon hoff
            refine ⟨_, rfl, fun K hK => ?_⟩
            have e113 : a.tmps[113]? = some (.slice Ao78 y454.length co78) := by rw [ha]; exact (putSel_off rfl).trans rfl
            replace ha := Aside0.mk ha
            have HO456 := Aside0.mk (Q_HO456 hb_)
            have HB := Aside0.mk Q_HB
            refine goes_ Tryd.func38 (by kernel_rfl) rfl #[.slice Ao78 y454.length co78] (by rfl) rfl rfl (by first | (simp only [List.map_toArray, List.map_cons, List.map_nil, Act.eval, Array.getD_eq_getD_getElem?, Option.getD_some, e113]; done) | (simp only [List.map_toArray, List.map_cons, List.map_nil, Act.eval, Array.getD_eq_getD_getElem?, Option.getD_some, e113]; rfl)) ?_
            with_reducible refine (csvr_Print.calls k3 _ _ y454 t457 _ ?side1 ?side2 ?side3 A72.out).mono ?_
            (case side1 => repeat (first | exact (Kd.N_reads' HO456.out).2.2 | (with_reducible refine Kd.C_alloc ?_ _) | (with_reducible refine Kd.C_drewN ?_ _) | (with_reducible refine Kd.C_drew ?_)))
            (case side2 => exact (Kd.N_reads' HO456.out).2.1)
            (case side3 => exact XM.Tabs.below hMax (fW HB.out))
            rintro e w80 ⟨v458, rfl, ho0, hb⟩
            refine ⟨_, rfl, ?_⟩
            have n0_ := Aside0.mk (Kd.N_below (fN HO456.out) hb)
            have n1_ := Aside0.mk (Kd.V_lower (Kd.V_mono (ok' := fun k_ => (P0_ k_ ∨ w.heap.size ≤ k_) ∧ some k_ ≠ (.slice Ao78 y454.length co78 : Value).ownBlock) ho0 (fun k_ hk_ => ⟨(.inr (Nat.le_trans (below_size (fW HB.out)) hk_)), (Kd.fresh' (Kd.N_lt (fN HO456.out)) k_ hk_)⟩)) (below_size (fW HB.out)))
            have n2_ := Aside0.mk (below_step (fW HB.out) hb)
            clear HO456
            clear HB
            have HO456 := n0_
            have HO459 := n1_
            have HB := n2_
            clear n0_ n1_ n2_
            (try clear hb)
            (try clear hb2)
            (try clear hk)
            (try clear hi)
            (try clear ho0)
            refine hK.out _ _ ⟨v458, v461, (by rw [ha.out]; exact putSel_upk 0 hb_ rfl rfl rfl), fun h0_ => absurd ((up_self b 1).symm.trans h0_) (by decide), (fW HB.out), fun _ => (fN HO456.out), fun _ => (fV HO459.out), fun h0_ => absurd ((hoff 4 (by kernel_rfl)).symm.trans h0_) (by decide)⟩
           refine steps_cons ?_ ?_
           ·rintro b a w' ⟨v458, v461, ha, Q_HO456, Q_HB, Q_HO456_e1, Q_HO459, Q_HO462⟩ hb_ hon hoff
            refine ⟨_, rfl, fun K hK => ?_⟩
            have e114 : a.tmps[114]? = some (v458) := by rw [ha]; exact putSel_on (e := (1, 114, v458)) 0 rfl rfl (hon 1 (by kernel_rfl)) rfl
            replace ha := Aside0.mk ha
            have HB := Aside0.mk Q_HB
            have HO456 := Aside0.mk (Q_HO456_e1 (hon 1 (by kernel_rfl)))
            have HO459 := Aside0.mk (Q_HO459 (hon 1 (by kernel_rfl)))
            obtain ⟨Ao2_0, co2_0, eo_⟩ := Kd.V_slice HO459.out
            subst eo_
            have hcv_ := Kd.C_string (P := Tryd.prog) (A := Ao2_0) (c := co2_0) Tryd.underlying35 Tryd.underlying5 Tryd.underlying9 (Kd.V_reads' HO459.out).2.2
            refine value_ (w1 := w') (v := .string (strOfNums t457)) (by rfl) rfl ?_ ?_
            ·go_simp
             (try simp only [i64_w])
             try rfl
            refine hK.out _ _ ⟨.slice Ao2_0 t457.length co2_0, v461, (by rw [ha.out]; exact putSel_upk 1 hb_ rfl rfl rfl), fun h0_ => absurd ((hon 1 (by kernel_rfl)).symm.trans h0_) (by decide), Q_HB, Q_HO456_e1, Q_HO459, Q_HO462⟩
           refine steps_cons ?_ ?_
           ·rintro b a w' ⟨v458, v461, ha, Q_HO456, Q_HB, Q_HO456_e1, Q_HO459, Q_HO462⟩ hb_ hon hoff
            refine ⟨_, rfl, fun K hK => ?_⟩
            have e116 : a.tmps[116]? = some (.slice Ao78 y454.length co78) := by rw [ha]; exact (putSel_off rfl).trans rfl
            replace ha := Aside0.mk ha
            have HB := Aside0.mk Q_HB
            have HO456 := Aside0.mk (Q_HO456_e1 (hon 1 (by kernel_rfl)))
            have HO459 := Aside0.mk (Q_HO459 (hon 1 (by kernel_rfl)))
            refine goes_ Tryd.func39 (by kernel_rfl) rfl #[.slice Ao78 y454.length co78] (by rfl) rfl rfl (by first | (simp only [List.map_toArray, List.map_cons, List.map_nil, Act.eval, Array.getD_eq_getD_getElem?, Option.getD_some, e116]; done) | (simp only [List.map_toArray, List.map_cons, List.map_nil, Act.eval, Array.getD_eq_getD_getElem?, Option.getD_some, e116]; rfl)) ?_
            with_reducible refine (gleberef7_PrintRecords.calls k3 _ _ y454 t460 _ ?side1 ?side2 A73.out).mono ?_
            (case side1 => repeat (first | exact (Kd.N_reads' HO456.out).2.2 | (with_reducible refine Kd.C_alloc ?_ _) | (with_reducible refine Kd.C_drewN ?_ _) | (with_reducible refine Kd.C_drew ?_)))
            (case side2 => exact (Kd.N_reads' HO456.out).2.1)
            rintro e w82 ⟨v461, rfl, ho0, hb⟩
            refine ⟨_, rfl, ?_⟩
            have n0_ := Aside0.mk (Kd.N_elder' (fN HO456.out) (Kd.R_base ho0) hb)
            have n1_ := Aside0.mk (Kd.V_elder' (fV HO459.out) (Kd.R_base ho0) hb)
            have n2_ := Aside0.mk (Kd.R_lower (Kd.R_newM (M := fun k_ => (w.heap.size ≤ k_)) ho0 (below_size (fW HB.out)) (fun k_ h_ => h_)) (below_size (fW HB.out)))
            have n3_ := Aside0.mk (below_step (fW HB.out) hb)
            clear HO456
            clear HO459
            clear HB
            have HO456 := n0_
            have HO459 := n1_
            have HO462 := n2_
            have HB := n3_
            clear n0_ n1_ n2_ n3_
            (try clear hb)
            (try clear hb2)
            (try clear hk)
            (try clear hi)
            (try clear ho0)
            refine hK.out _ _ ⟨v458, v461, (by rw [ha.out]; exact putSel_upk 2 hb_ rfl rfl rfl), fun h0_ => absurd ((hon 1 (by kernel_rfl)).symm.trans h0_) (by decide), (fW HB.out), fun _ => (by refine fN (h := ?_); exact Kd.N_mono HO456.out (fun _ hk => hk.1)), fun _ => (by refine fV (h := ?_); exact Kd.V_mono HO459.out (fun _ hk => hk.1)), fun _ => (by refine fR (h := ?_); exact Kd.R_mono HO462.out (fun _ hk => hk.1))⟩
           refine steps_cons ?_ ?_
           ·rintro b a w' ⟨v458, v461, ha, Q_HO456, Q_HB, Q_HO456_e1, Q_HO459, Q_HO462⟩ hb_ hon hoff
            refine ⟨_, rfl, fun K hK => ?_⟩
            have e117 : a.tmps[117]? = some (v461) := by rw [ha]; exact putSel_on (e := (4, 117, v461)) 2 rfl rfl (hon 4 (by kernel_rfl)) rfl
            replace ha := Aside0.mk ha
            have HB := Aside0.mk Q_HB
            have HO456 := Aside0.mk (Q_HO456_e1 (hon 1 (by kernel_rfl)))
            have HO459 := Aside0.mk (Q_HO459 (hon 1 (by kernel_rfl)))
            have HO462 := Aside0.mk (Q_HO462 (hon 4 (by kernel_rfl)))
            obtain ⟨Ao5_0, co5_0, eo_⟩ := Kd.R_slice HO462.out
            subst eo_
            have hcv_ := own_string (P := Tryd.prog) Tryd.underlying35 Tryd.underlying5 Tryd.underlying9 (Kd.own_of_R HO462.out)
            refine value_ (w1 := w') (v := .string (strOfNums t460)) (by rfl) rfl ?_ ?_
            ·go_simp
             (try simp only [i64_w])
             try rfl
            refine hK.out _ _ ⟨v458, .slice Ao5_0 t460.length co5_0, (by rw [ha.out]; exact putSel_upk 3 hb_ rfl rfl rfl), fun h0_ => absurd ((hon 1 (by kernel_rfl)).symm.trans h0_) (by decide), Q_HB, Q_HO456_e1, Q_HO459, Q_HO462⟩
           refine steps_cons ?_ ?_
           ·rintro b a w' ⟨v458, v461, ha, Q_HO456, Q_HB, Q_HO456_e1, Q_HO459, Q_HO462⟩ hb_ hon hoff
            refine ⟨_, rfl, fun K hK => ?_⟩
            have e115 : a.tmps[115]? = some (.string (strOfNums t457)) := by rw [ha]; exact putSel_on (e := (2, 115, .string (strOfNums t457))) 1 rfl rfl (hon 2 (by kernel_rfl)) rfl
            have e118 : a.tmps[118]? = some (.string (strOfNums t460)) := by rw [ha]; exact putSel_on (e := (5, 118, .string (strOfNums t460))) 3 rfl rfl (hon 5 (by kernel_rfl)) rfl
            replace ha := Aside0.mk ha
            have HB := Aside0.mk Q_HB
            have HO456 := Aside0.mk (Q_HO456_e1 (hon 1 (by kernel_rfl)))
            have HO459 := Aside0.mk (Q_HO459 (hon 1 (by kernel_rfl)))
            have HO462 := Aside0.mk (Q_HO462 (hon 4 (by kernel_rfl)))
            refine value_ (w1 := w') (v := .bool ((strOfNums t457).toList == (strOfNums t460).toList)) (by rfl) rfl ?_ ?_
            ·go_simp
             (try simp only [i64_w])
             try rfl
            refine hK.out _ _ ⟨v458, v461, (by rw [ha.out]; exact putSel_upk 4 hb_ rfl rfl rfl), fun h0_ => absurd ((hon 1 (by kernel_rfl)).symm.trans h0_) (by decide), Q_HB, Q_HO456_e1, Q_HO459, Q_HO462⟩
           refine steps_cons ?_ ?_
           ·rintro b a w' ⟨v458, v461, ha, Q_HO456, Q_HB, Q_HO456_e1, Q_HO459, Q_HO462⟩ hb_ hon hoff
            refine ⟨_, rfl, fun K hK => ?_⟩
            have e119 : a.tmps[119]? = some (.bool ((strOfNums t457).toList == (strOfNums t460).toList)) := by rw [ha]; exact putSel_on (e := (6, 119, .bool ((strOfNums t457).toList == (strOfNums t460).toList))) 4 rfl rfl (hon 6 (by kernel_rfl)) rfl
            replace ha := Aside0.mk ha
            have HB := Aside0.mk Q_HB
            have HO456 := Aside0.mk (Q_HO456_e1 (hon 1 (by kernel_rfl)))
            have HO459 := Aside0.mk (Q_HO459 (hon 1 (by kernel_rfl)))
            have HO462 := Aside0.mk (Q_HO462 (hon 4 (by kernel_rfl)))
            refine value_ (w1 := w') (v := .bool ((strOfNums t457).toList == (strOfNums t460).toList)) (by rfl) rfl ?_ ?_
            ·go_simp
             (try simp only [i64_w])
             try rfl
            refine hK.out _ _ ⟨v458, v461, (by rw [ha.out]; exact putSel_upk 5 hb_ rfl rfl rfl), fun h0_ => absurd ((hon 1 (by kernel_rfl)).symm.trans h0_) (by decide), Q_HB, Q_HO456_e1, Q_HO459, Q_HO462⟩
           refine steps_cons ?_ ?_
           ·rintro b a w' ⟨v458, v461, ha, Q_HO456, Q_HB, Q_HO456_e1, Q_HO459, Q_HO462⟩ hb_ hon hoff
            refine ⟨_, rfl, fun K hK => ?_⟩
            have e120 : a.tmps[120]? = some (.bool ((strOfNums t457).toList == (strOfNums t460).toList)) := by rw [ha]; exact putSel_on (e := (7, 120, .bool ((strOfNums t457).toList == (strOfNums t460).toList))) 5 rfl rfl (hon 7 (by kernel_rfl)) rfl
            replace ha := Aside0.mk ha
            have HB := Aside0.mk Q_HB
            have HO456 := Aside0.mk (Q_HO456_e1 (hon 1 (by kernel_rfl)))
            have HO459 := Aside0.mk (Q_HO459 (hon 1 (by kernel_rfl)))
            have HO462 := Aside0.mk (Q_HO462 (hon 4 (by kernel_rfl)))
            refine goes_ Tryd.func34 (by kernel_rfl) rfl #[] (wanted_on rfl rfl rfl (e120.trans (by rw [c74b0]))) rfl rfl (by first | (simp only [List.map_toArray, List.map_cons, List.map_nil, Act.eval, Array.getD_eq_getD_getElem?, Option.getD_some, e120]; done) | (simp only [List.map_toArray, List.map_cons, List.map_nil, Act.eval, Array.getD_eq_getD_getElem?, Option.getD_some, e120]; rfl)) ?_
            with_reducible refine (glebelaw9_awake.calls k3  t463 _ ?side1 A75.out).mono ?_
            (case side1 => exact XM.Tabs.below hMax (fW HB.out))
            rintro e w83 ⟨rfl, hb⟩
            refine ⟨_, rfl, ?_⟩
            have n0_ := Aside0.mk (Kd.N_below (fN HO456.out) hb)
            have n1_ := Aside0.mk (Kd.V_below (fV HO459.out) hb)
            have n2_ := Aside0.mk (Kd.R_below (fR HO462.out) hb)
            have n3_ := Aside0.mk (below_step (fW HB.out) hb)
            clear HO456
            clear HO459
            clear HO462
            clear HB
            have HO456 := n0_
            have HO459 := n1_
            have HO462 := n2_
            have HB := n3_
            clear n0_ n1_ n2_ n3_
            (try clear hb)
            (try clear hb2)
            (try clear hk)
            (try clear hi)
            refine hK.out _ _ ⟨v458, v461, (by rw [ha.out]; exact putSel_upk 6 hb_ rfl rfl rfl), fun h0_ => absurd ((hon 1 (by kernel_rfl)).symm.trans h0_) (by decide), (fW HB.out), fun _ => (fN HO456.out), fun _ => (fV HO459.out), fun _ => (fR HO462.out)⟩
           refine steps_cons ?_ ?_
           ·rintro b a w' ⟨v458, v461, ha, Q_HO456, Q_HB, Q_HO456_e1, Q_HO459, Q_HO462⟩ hb_ hon hoff
            refine ⟨_, rfl, fun K hK => ?_⟩
            have e120 : a.tmps[120]? = some (.bool ((strOfNums t457).toList == (strOfNums t460).toList)) := by rw [ha]; exact putSel_on (e := (7, 120, .bool ((strOfNums t457).toList == (strOfNums t460).toList))) 5 rfl rfl (hon 7 (by kernel_rfl)) rfl
            have e121 : a.tmps[121]? = some (.bool t463) := by rw [ha]; exact putSel_on (e := (8, 121, .bool t463)) 6 rfl rfl (hon 8 (by kernel_rfl)) rfl
            replace ha := Aside0.mk ha
            have HB := Aside0.mk Q_HB
            have HO456 := Aside0.mk (Q_HO456_e1 (hon 1 (by kernel_rfl)))
            have HO459 := Aside0.mk (Q_HO459 (hon 1 (by kernel_rfl)))
            have HO462 := Aside0.mk (Q_HO462 (hon 4 (by kernel_rfl)))
            refine value_ (w1 := w') (v := .bool t463) (by rfl) rfl ?_ ?_
            ·go_simp
             (try simp only [i64_w])
             try rfl
            refine hK.out _ _ ⟨v458, v461, (by rw [ha.out]; exact putSel_upk 7 hb_ rfl rfl rfl), fun h0_ => absurd ((hon 1 (by kernel_rfl)).symm.trans h0_) (by decide), Q_HB, Q_HO456_e1, Q_HO459, Q_HO462⟩
           refine steps_cons ?_ ?_
           ·rintro b a w' ⟨v458, v461, ha, Q_HO456, Q_HB, Q_HO456_e1, Q_HO459, Q_HO462⟩ hb_ hon hoff
            refine ⟨_, rfl, fun K hK => ?_⟩
            have e122 : a.tmps[122]? = some (.bool t463) := by rw [ha]; exact putSel_on (e := (9, 122, .bool t463)) 7 rfl rfl (hon 9 (by kernel_rfl)) rfl
            replace ha := Aside0.mk ha
            have HB := Aside0.mk Q_HB
            have HO456 := Aside0.mk (Q_HO456_e1 (hon 1 (by kernel_rfl)))
            have HO459 := Aside0.mk (Q_HO459 (hon 1 (by kernel_rfl)))
            have HO462 := Aside0.mk (Q_HO462 (hon 4 (by kernel_rfl)))
            refine value_ (w1 := w') (v := .bool t463) (by rfl) rfl ?_ ?_
            ·go_simp
             (try simp only [i64_w])
             try rfl
            refine hK.out _ _ ⟨v458, v461, (by rw [ha.out]; exact putSel_upk 8 hb_ rfl rfl rfl), fun h0_ => absurd ((hon 1 (by kernel_rfl)).symm.trans h0_) (by decide), Q_HB, Q_HO456_e1, Q_HO459, Q_HO462⟩
           exact steps_nil
          rintro b a w83 hall ⟨v458, v461, ha, Q_HO456, Q_HB, Q_HO456_e1, Q_HO459, Q_HO462⟩
          clear HB HO456
          have hb1_ := hall 1 (by kernel_rfl)
          have hb2_ := hall 2 (by kernel_rfl)
          have hb4_ := hall 4 (by kernel_rfl)
          have hb5_ := hall 5 (by kernel_rfl)
          have hb6_ := hall 6 (by kernel_rfl)
          have hb7_ := hall 7 (by kernel_rfl)
          have hb8_ := hall 8 (by kernel_rfl)
          have hb9_ := hall 9 (by kernel_rfl)
          have hb10_ := hall 10 (by kernel_rfl)
          subst ha
          simp only [putSel, hb1_, hb2_, hb4_, hb5_, hb6_, hb7_, hb8_, hb9_, hb10_, if_true, Act.put, List.setIfInBounds_toArray, List.set_cons_zero, List.set_cons_succ]
          clear Q_HO456
          have HB := Aside0.mk Q_HB
          clear Q_HB
          have HO456 := Aside0.mk (Q_HO456_e1 hb1_)
          clear Q_HO456_e1
          have HO459 := Aside0.mk (Q_HO459 hb1_)
          clear Q_HO459
          have HO462 := Aside0.mk (Q_HO462 hb4_)
          clear Q_HO462
          clear hall hb1_ hb2_ hb4_ hb5_ hb6_ hb7_ hb8_ hb9_ hb10_
          try go_wp2
          go_ret
          exact ⟨oE, fW HB.out⟩

/-- THE ONE PURE STATEMENT of glebelaw9_CsvrTells: yours. -/
def glebelaw9_CsvrTells.Pure : Prop := ∀ (l0 : List Int) (l1 : List Int) (l2 : List (List Int)) (a3 : Int), l0.length ≤ maxLen → l0.length * 1 ≤ 140737488351232 → (∀ x ∈ l0, (Lit.int .u8 x).wf = true) → l1.length ≤ maxLen → l1.length * 8 ≤ 140737488351232 → (∀ x ∈ l1, (Lit.int .i64 x).wf = true) → l2.length ≤ maxLen → (∀ x ∈ l2, x.length ≤ maxLen ∧ ∀ y ∈ x, (Lit.int .u8 y).wf = true) → (Lit.int .i64 a3).wf = true → ∃ k, glebelaw9_CsvrTells.f k l0 l1 l2 a3 = some true
theorem glebelaw9_CsvrTells.walk (P : glebelaw9_CsvrTells.Pure) (a0 : Option Addr) (len0 cap0 : Nat) (z0 : List Int) (a1 : Option Addr) (len1 cap1 : Nat) (z1 : List Int) (a2 : Option Addr) (cap2 : Nat) (l2 : List (List Int)) (a3 : Int) (w : World) (w0 : (a0 = none ∧ len0 = 0 ∧ cap0 = 0 ∧ z0 = []) ∨ ∃ x, a0 = some x ∧ len0 ≤ cap0 ∧ cap0 ≤ maxLen ∧ z0.length = cap0 ∧ (∀ i, i < z0.length → w.cell? (x.add i) = some (.int .u8 (z0.getD i 0))) ∧ ∀ n ∈ z0, (Lit.int .u8 n).wf = true) (y0 : len0 * 1 ≤ 140737488351232) (w1 : (a1 = none ∧ len1 = 0 ∧ cap1 = 0 ∧ z1 = []) ∨ ∃ x, a1 = some x ∧ len1 ≤ cap1 ∧ cap1 ≤ maxLen ∧ z1.length = cap1 ∧ (∀ i, i < z1.length → w.cell? (x.add i) = some (.int .i64 (z1.getD i 0))) ∧ ∀ n ∈ z1, (Lit.int .i64 n).wf = true) (y1 : len1 * 8 ≤ 140737488351232) (hr2 : Kd.C (Kd.slice 5 (Kd.int .u8)) w a2 l2.length l2) (hc2 : l2.length ≤ cap2) (hm2 : l2.length ≤ maxLen) (hw2 : ∀ x ∈ l2, x.length ≤ maxLen ∧ ∀ y ∈ x, (Lit.int .u8 y).wf = true) (w3 : (Lit.int .i64 a3).wf = true) (hMax : XM.Tabs w) :
  Calls Tryd.prog 13 #[.slice a0 len0 cap0, .slice a1 len1 cap1, .slice a2 l2.length cap2, .int .i64 a3] w fun e w' => e = .returned (.bool true) ∧ Below w.heap.size w w' := by
 obtain ⟨l0, rfl, hr0, hm0, hw0, hc0⟩ := ReadsInt.ofRowC w0
 obtain ⟨l1, rfl, hr1, hm1, hw1, hc1⟩ := ReadsInt.ofRowC w1
 obtain ⟨k, h⟩ := P l0 l1 l2 a3 hm0 y0 hw0 hm1 y1 hw1 hm2 hw2 w3
 refine (glebelaw9_CsvrTells.calls k (fun _ => True) _ _ l0 _ _ l1 _ _ l2 a3 true w (XW.V_of_C (Kd.C_of_reads (d := (0 : Int)) (h1 := fun _ => rfl) hr0) hc0) (Kd.C_of_reads (d := (0 : Int)) (h1 := fun _ => rfl) hr1) hc1 hr2 hc2 hMax h).mono ?_
 rintro e w' ⟨rfl, hd⟩
 exact ⟨rfl, hd⟩

end Go.Proofs.YtcgchblljhbdaaaDoor.C
