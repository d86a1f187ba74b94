-- Printed by this session's own program (wip/xprint) out of the translation. Lean checks it.
import Derived.Test.YtcgchblljhbdaaaDoorCx0
import Derived.Test.YtcgchblljhbdaaaDoorCx5
import Derived.Test.YtcgchblljhbdaaaDoorCx6
namespace Go.Proofs.YtcgchblljhbdaaaDoor.C
open Go.Proofs.YtcgchblljhbdaaaDoor
open Go.RowKit Go.Proofs.YtcgchblljhbdaaaDoorW.PrintWords Go.Proofs.YtcgchblljhbdaaaDoorW.PrintLast Go.Proofs.YtcgchblljhbdaaaDoorW.PrintMore
attribute [local go_sem] max2_int min2_int max_two min_two max_three min_three max_four min_four   -- for this text's walks alone
set_option linter.unusedVariables false
set_option linter.unusedSimpArgs false

/-! ### glebelaw9_CsvrBack: function 14 -/
mutual
def glebelaw9_CsvrBack.l0 : Nat → List (List Int) → Int → List (List ByteArray) → List ByteArray → Int → Option (Bool)
  | 0, _, _, _, _, _ => none
  | k + 1, x0, x1, x5, x6, x7 => if x7 < (x0.length : Int) then (glebelaw9_CsvrBack.j1 k x0 x1 x5 x6 x7 (decide (x7 < 30))) else (glebelaw9_CsvrBack.j1 k x0 x1 x5 x6 x7 false)
def glebelaw9_CsvrBack.j1 : Nat → List (List Int) → Int → List (List ByteArray) → List ByteArray → Int → Bool → Option (Bool)
  | 0, _, _, _, _, _, _ => none
  | k + 1, x0, x1, x5, x6, x7, x22 => if x22 = true then (if 0 ≤ x7 then (if x7 < (x0.length : Int) then (if ((rd_L7 x0 x7).length : Int) > 255 then ((glebelaw9_awake.f k).bind fun t474 => (some t474)) else (glebelaw9_CsvrBack.l1 k x0 x1 x5 x6 x7 (⟨#[]⟩ : ByteArray) (rd_L7 x0 x7) ((rd_L7 x0 x7).length : Int) 0)) else (none)) else (none)) else (if (x6.length : Int) > 0 then (if x5.length < 5864062014805 then (glebelaw9_CsvrBack.j3 k (x5 ++ [x6])) else (none)) else (glebelaw9_CsvrBack.j3 k x5))
def glebelaw9_CsvrBack.l1 : Nat → List (List Int) → Int → List (List ByteArray) → List ByteArray → Int → ByteArray → List Int → Int → Int → Option (Bool)
  | 0, _, _, _, _, _, _, _, _, _ => none
  | k + 1, x0, x1, x5, x6, x7, x8, x35, x36, x37 => if x37 < x36 then (if 0 ≤ x37 then (if x37 < (x35.length : Int) then ((some (([10, 13, 34, 44, 97, 98, 32, 48, 49, 57] : List Int) : List Int)).bind fun y477 => (if 0 ≤ (Int.tmod (Go.bits .and .u8 (rd x35 x37) 255) 10) then (if (Int.tmod (Go.bits .and .u8 (rd x35 x37) 255) 10) < (y477.length : Int) then ((some (([rd y477 (Int.tmod (Go.bits .and .u8 (rd x35 x37) 255) 10)] : List Int) : List Int)).bind fun y481 => (if x8.size + (strOfNums y481).size ≤ 9223372036854775807 then (glebelaw9_CsvrBack.l1 k x0 x1 x5 x6 x7 (x8 ++ (strOfNums y481)) x35 x36 (wrap64 (x37 + 1))) else (none))) else (none)) else (none))) else (none)) else (none)) else (if x6.length < 8796093022208 then ((some (x6 ++ [x8] : List ByteArray)).bind fun y484 => (if 0 ≤ (IntKind.u64.wrap (x7)) then (if (Go.bits .and .i64 (shr .i64 x1 (IntKind.u64.wrap (x7))) 1) = 1 then (if x5.length < 5864062014805 then (glebelaw9_CsvrBack.l0 k x0 x1 (x5 ++ [y484]) ([] : List ByteArray) (wrap64 (x7 + 1))) else (none)) else (glebelaw9_CsvrBack.l0 k x0 x1 x5 y484 (wrap64 (x7 + 1)))) else (none))) else (none))
def glebelaw9_CsvrBack.j3 : Nat → List (List ByteArray) → Option (Bool)
  | 0, _ => none
  | k + 1, x5 => (csvr_Print.f k x5).bind fun t493 => ((csvr_Parse.f k t493).bind fun bt496 => (if bt496.2.1 = 0 then (glebelaw9_CsvrBack.j4 k x5 bt496.1 ((bt496.1.length : Int) != (x5.length : Int))) else (glebelaw9_CsvrBack.j4 k x5 bt496.1 true)))
def glebelaw9_CsvrBack.j4 : Nat → List (List ByteArray) → List (List (S59)) → Bool → Option (Bool)
  | 0, _, _, _ => none
  | k + 1, x5, x11, x89 => if x89 = true then (none) else (glebelaw9_CsvrBack.l2 k x5 x11 (x11.length : Int) 0)
def glebelaw9_CsvrBack.l2 : Nat → List (List ByteArray) → List (List (S59)) → Int → Int → Option (Bool)
  | 0, _, _, _, _ => none
  | k + 1, x5, x11, x91, x92 => if x92 < x91 then (if 0 ≤ x92 then (if x92 < (x11.length : Int) then (if x92 < (x5.length : Int) then (if ((rd_L4 x11 x92).length : Int) = ((rd_L5 x5 x92).length : Int) then (glebelaw9_CsvrBack.l3 k x5 x11 x92 x91 x92 ((rd_L4 x11 x92).length : Int) 0) else (none)) else (none)) else (none)) else (none)) else ((glebelaw9_awake.f k).bind fun t502 => (some t502))
def glebelaw9_CsvrBack.l3 : Nat → List (List ByteArray) → List (List (S59)) → Int → Int → Int → Int → Int → Option (Bool)
  | 0, _, _, _, _, _, _, _ => none
  | k + 1, x5, x11, x13, x91, x92, x110, x111 => if x111 < x110 then (if 0 ≤ x13 then (if x13 < (x11.length : Int) then (if 0 ≤ x111 then (if x111 < ((rd_L4 x11 x13).length : Int) then (if x13 < (x5.length : Int) then (if x111 < ((rd_L5 x5 x13).length : Int) then (if ((rd_T59 (rd_L4 x11 x13) x111).f1).toList = (rdOf ByteArray.empty (rd_L5 x5 x13) x111).toList then (if ((rd_T59 (rd_L4 x11 x13) x111).f0) = 5 then (glebelaw9_CsvrBack.l3 k x5 x11 x13 x91 x92 x110 (wrap64 (x111 + 1))) else (none)) else (none)) else (none)) else (none)) else (none)) else (none)) else (none)) else (none)) else (glebelaw9_CsvrBack.l2 k x5 x11 x91 (wrap64 (x92 + 1)))
end
def glebelaw9_CsvrBack.f (k : Nat) (l0 : List (List Int)) (a1 : Int) : Option (Bool) := glebelaw9_CsvrBack.l0 k l0 a1 ([] : List (List ByteArray)) ([] : List ByteArray) 0
theorem glebelaw9_CsvrBack.mono_l : ∀ k, (∀ y0 y1 y2 y3 y4, LeO (glebelaw9_CsvrBack.l0 k y0 y1 y2 y3 y4) (glebelaw9_CsvrBack.l0 (k + 1) y0 y1 y2 y3 y4)) ∧ (∀ y0 y1 y2 y3 y4 y5, LeO (glebelaw9_CsvrBack.j1 k y0 y1 y2 y3 y4 y5) (glebelaw9_CsvrBack.j1 (k + 1) y0 y1 y2 y3 y4 y5)) ∧ (∀ y0 y1 y2 y3 y4 y5 y6 y7 y8, LeO (glebelaw9_CsvrBack.l1 k y0 y1 y2 y3 y4 y5 y6 y7 y8) (glebelaw9_CsvrBack.l1 (k + 1) y0 y1 y2 y3 y4 y5 y6 y7 y8)) ∧ (∀ y0, LeO (glebelaw9_CsvrBack.j3 k y0) (glebelaw9_CsvrBack.j3 (k + 1) y0)) ∧ (∀ y0 y1 y2, LeO (glebelaw9_CsvrBack.j4 k y0 y1 y2) (glebelaw9_CsvrBack.j4 (k + 1) y0 y1 y2)) ∧ (∀ y0 y1 y2 y3, LeO (glebelaw9_CsvrBack.l2 k y0 y1 y2 y3) (glebelaw9_CsvrBack.l2 (k + 1) y0 y1 y2 y3)) ∧ (∀ y0 y1 y2 y3 y4 y5 y6, LeO (glebelaw9_CsvrBack.l3 k y0 y1 y2 y3 y4 y5 y6) (glebelaw9_CsvrBack.l3 (k + 1) y0 y1 y2 y3 y4 y5 y6))
  | 0 => ⟨fun _ _ _ _ _ r h => by simp [glebelaw9_CsvrBack.l0] at h, fun _ _ _ _ _ _ r h => by simp [glebelaw9_CsvrBack.j1] at h, fun _ _ _ _ _ _ _ _ _ r h => by simp [glebelaw9_CsvrBack.l1] at h, fun _ r h => by simp [glebelaw9_CsvrBack.j3] at h, fun _ _ _ r h => by simp [glebelaw9_CsvrBack.j4] at h, fun _ _ _ _ r h => by simp [glebelaw9_CsvrBack.l2] at h, fun _ _ _ _ _ _ _ r h => by simp [glebelaw9_CsvrBack.l3] at h⟩
  | k + 1 => by
    obtain ⟨ih0, ih1, ih2, ih3, ih4, ih5, ih6⟩ := glebelaw9_CsvrBack.mono_l k
    refine ⟨?_, ?_, ?_, ?_, ?_, ?_, ?_⟩
    · intro y0 y1 y2 y3 y4
      unfold glebelaw9_CsvrBack.l0
      repeat' first
      | (with_reducible exact ih0 _ _ _ _ _)
      | (with_reducible exact ih1 _ _ _ _ _ _)
      | (with_reducible exact ih2 _ _ _ _ _ _ _ _ _)
      | (with_reducible exact ih3 _)
      | (with_reducible exact ih4 _ _ _)
      | (with_reducible exact ih5 _ _ _ _)
      | (with_reducible exact ih6 _ _ _ _ _ _ _)
      | (with_reducible exact csvr_Parse.mono _ _)
      | (with_reducible exact csvr_Print.mono _ _)
      | (with_reducible exact glebelaw9_awake.mono _)
      | (with_reducible exact LeO.refl _)
      | (with_reducible exact LeO.none _)
      | (with_reducible refine LeO.ite ?_ ?_)
      | (with_reducible refine LeO.bind ?_ (fun _ => ?_))
      | exact ih0 _ _ _ _ _
      | exact ih1 _ _ _ _ _ _
      | exact ih2 _ _ _ _ _ _ _ _ _
      | exact ih3 _
      | exact ih4 _ _ _
      | exact ih5 _ _ _ _
      | exact ih6 _ _ _ _ _ _ _
      | exact csvr_Parse.mono _ _
      | exact csvr_Print.mono _ _
      | exact glebelaw9_awake.mono _
      | exact LeO.none _
      | refine LeO.ite ?_ ?_
      | refine LeO.bind ?_ (fun _ => ?_)
    · intro y0 y1 y2 y3 y4 y5
      unfold glebelaw9_CsvrBack.j1
      repeat' first
      | (with_reducible exact ih0 _ _ _ _ _)
      | (with_reducible exact ih1 _ _ _ _ _ _)
      | (with_reducible exact ih2 _ _ _ _ _ _ _ _ _)
      | (with_reducible exact ih3 _)
      | (with_reducible exact ih4 _ _ _)
      | (with_reducible exact ih5 _ _ _ _)
      | (with_reducible exact ih6 _ _ _ _ _ _ _)
      | (with_reducible exact csvr_Parse.mono _ _)
      | (with_reducible exact csvr_Print.mono _ _)
      | (with_reducible exact glebelaw9_awake.mono _)
      | (with_reducible exact LeO.refl _)
      | (with_reducible exact LeO.none _)
      | (with_reducible refine LeO.ite ?_ ?_)
      | (with_reducible refine LeO.bind ?_ (fun _ => ?_))
      | exact ih0 _ _ _ _ _
      | exact ih1 _ _ _ _ _ _
      | exact ih2 _ _ _ _ _ _ _ _ _
      | exact ih3 _
      | exact ih4 _ _ _
      | exact ih5 _ _ _ _
      | exact ih6 _ _ _ _ _ _ _
      | exact csvr_Parse.mono _ _
      | exact csvr_Print.mono _ _
      | exact glebelaw9_awake.mono _
      | exact LeO.none _
      | refine LeO.ite ?_ ?_
      | refine LeO.bind ?_ (fun _ => ?_)
    · intro y0 y1 y2 y3 y4 y5 y6 y7 y8
      unfold glebelaw9_CsvrBack.l1
      repeat' first
      | (with_reducible exact ih0 _ _ _ _ _)
      | (with_reducible exact ih1 _ _ _ _ _ _)
      | (with_reducible exact ih2 _ _ _ _ _ _ _ _ _)
      | (with_reducible exact ih3 _)
      | (with_reducible exact ih4 _ _ _)
      | (with_reducible exact ih5 _ _ _ _)
      | (with_reducible exact ih6 _ _ _ _ _ _ _)
      | (with_reducible exact csvr_Parse.mono _ _)
      | (with_reducible exact csvr_Print.mono _ _)
      | (with_reducible exact glebelaw9_awake.mono _)
      | (with_reducible exact LeO.refl _)
      | (with_reducible exact LeO.none _)
      | (with_reducible refine LeO.ite ?_ ?_)
      | (with_reducible refine LeO.bind ?_ (fun _ => ?_))
      | exact ih0 _ _ _ _ _
      | exact ih1 _ _ _ _ _ _
      | exact ih2 _ _ _ _ _ _ _ _ _
      | exact ih3 _
      | exact ih4 _ _ _
      | exact ih5 _ _ _ _
      | exact ih6 _ _ _ _ _ _ _
      | exact csvr_Parse.mono _ _
      | exact csvr_Print.mono _ _
      | exact glebelaw9_awake.mono _
      | exact LeO.none _
      | refine LeO.ite ?_ ?_
      | refine LeO.bind ?_ (fun _ => ?_)
    · intro y0
      unfold glebelaw9_CsvrBack.j3
      repeat' first
      | (with_reducible exact ih0 _ _ _ _ _)
      | (with_reducible exact ih1 _ _ _ _ _ _)
      | (with_reducible exact ih2 _ _ _ _ _ _ _ _ _)
      | (with_reducible exact ih3 _)
      | (with_reducible exact ih4 _ _ _)
      | (with_reducible exact ih5 _ _ _ _)
      | (with_reducible exact ih6 _ _ _ _ _ _ _)
      | (with_reducible exact csvr_Parse.mono _ _)
      | (with_reducible exact csvr_Print.mono _ _)
      | (with_reducible exact glebelaw9_awake.mono _)
      | (with_reducible exact LeO.refl _)
      | (with_reducible exact LeO.none _)
      | (with_reducible refine LeO.ite ?_ ?_)
      | (with_reducible refine LeO.bind ?_ (fun _ => ?_))
      | exact ih0 _ _ _ _ _
      | exact ih1 _ _ _ _ _ _
      | exact ih2 _ _ _ _ _ _ _ _ _
      | exact ih3 _
      | exact ih4 _ _ _
      | exact ih5 _ _ _ _
      | exact ih6 _ _ _ _ _ _ _
      | exact csvr_Parse.mono _ _
      | exact csvr_Print.mono _ _
      | exact glebelaw9_awake.mono _
      | exact LeO.none _
      | refine LeO.ite ?_ ?_
      | refine LeO.bind ?_ (fun _ => ?_)
    · intro y0 y1 y2
      unfold glebelaw9_CsvrBack.j4
      repeat' first
      | (with_reducible exact ih0 _ _ _ _ _)
      | (with_reducible exact ih1 _ _ _ _ _ _)
      | (with_reducible exact ih2 _ _ _ _ _ _ _ _ _)
      | (with_reducible exact ih3 _)
      | (with_reducible exact ih4 _ _ _)
      | (with_reducible exact ih5 _ _ _ _)
      | (with_reducible exact ih6 _ _ _ _ _ _ _)
      | (with_reducible exact csvr_Parse.mono _ _)
      | (with_reducible exact csvr_Print.mono _ _)
      | (with_reducible exact glebelaw9_awake.mono _)
      | (with_reducible exact LeO.refl _)
      | (with_reducible exact LeO.none _)
      | (with_reducible refine LeO.ite ?_ ?_)
      | (with_reducible refine LeO.bind ?_ (fun _ => ?_))
      | exact ih0 _ _ _ _ _
      | exact ih1 _ _ _ _ _ _
      | exact ih2 _ _ _ _ _ _ _ _ _
      | exact ih3 _
      | exact ih4 _ _ _
      | exact ih5 _ _ _ _
      | exact ih6 _ _ _ _ _ _ _
      | exact csvr_Parse.mono _ _
      | exact csvr_Print.mono _ _
      | exact glebelaw9_awake.mono _
      | exact LeO.none _
      | refine LeO.ite ?_ ?_
      | refine LeO.bind ?_ (fun _ => ?_)
    · intro y0 y1 y2 y3
      unfold glebelaw9_CsvrBack.l2
      repeat' first
      | (with_reducible exact ih0 _ _ _ _ _)
      | (with_reducible exact ih1 _ _ _ _ _ _)
      | (with_reducible exact ih2 _ _ _ _ _ _ _ _ _)
      | (with_reducible exact ih3 _)
      | (with_reducible exact ih4 _ _ _)
      | (with_reducible exact ih5 _ _ _ _)
      | (with_reducible exact ih6 _ _ _ _ _ _ _)
      | (with_reducible exact csvr_Parse.mono _ _)
      | (with_reducible exact csvr_Print.mono _ _)
      | (with_reducible exact glebelaw9_awake.mono _)
      | (with_reducible exact LeO.refl _)
      | (with_reducible exact LeO.none _)
      | (with_reducible refine LeO.ite ?_ ?_)
      | (with_reducible refine LeO.bind ?_ (fun _ => ?_))
      | exact ih0 _ _ _ _ _
      | exact ih1 _ _ _ _ _ _
      | exact ih2 _ _ _ _ _ _ _ _ _
      | exact ih3 _
      | exact ih4 _ _ _
      | exact ih5 _ _ _ _
      | exact ih6 _ _ _ _ _ _ _
      | exact csvr_Parse.mono _ _
      | exact csvr_Print.mono _ _
      | exact glebelaw9_awake.mono _
      | exact LeO.none _
      | refine LeO.ite ?_ ?_
      | refine LeO.bind ?_ (fun _ => ?_)
    · intro y0 y1 y2 y3 y4 y5 y6
      unfold glebelaw9_CsvrBack.l3
      repeat' first
      | (with_reducible exact ih0 _ _ _ _ _)
      | (with_reducible exact ih1 _ _ _ _ _ _)
      | (with_reducible exact ih2 _ _ _ _ _ _ _ _ _)
      | (with_reducible exact ih3 _)
      | (with_reducible exact ih4 _ _ _)
      | (with_reducible exact ih5 _ _ _ _)
      | (with_reducible exact ih6 _ _ _ _ _ _ _)
      | (with_reducible exact csvr_Parse.mono _ _)
      | (with_reducible exact csvr_Print.mono _ _)
      | (with_reducible exact glebelaw9_awake.mono _)
      | (with_reducible exact LeO.refl _)
      | (with_reducible exact LeO.none _)
      | (with_reducible refine LeO.ite ?_ ?_)
      | (with_reducible refine LeO.bind ?_ (fun _ => ?_))
      | exact ih0 _ _ _ _ _
      | exact ih1 _ _ _ _ _ _
      | exact ih2 _ _ _ _ _ _ _ _ _
      | exact ih3 _
      | exact ih4 _ _ _
      | exact ih5 _ _ _ _
      | exact ih6 _ _ _ _ _ _ _
      | exact csvr_Parse.mono _ _
      | exact csvr_Print.mono _ _
      | exact glebelaw9_awake.mono _
      | exact LeO.none _
      | refine LeO.ite ?_ ?_
      | refine LeO.bind ?_ (fun _ => ?_)
theorem glebelaw9_CsvrBack.mono : ∀ a0 a1 k, LeO (glebelaw9_CsvrBack.f k a0 a1) (glebelaw9_CsvrBack.f (k + 1) a0 a1) := by
  intro a0 a1 k
  obtain ⟨ih0, ih1, ih2, ih3, ih4, ih5, ih6⟩ := glebelaw9_CsvrBack.mono_l k
  unfold glebelaw9_CsvrBack.f
  repeat' first
      | (with_reducible exact ih0 _ _ _ _ _)
      | (with_reducible exact ih1 _ _ _ _ _ _)
      | (with_reducible exact ih2 _ _ _ _ _ _ _ _ _)
      | (with_reducible exact ih3 _)
      | (with_reducible exact ih4 _ _ _)
      | (with_reducible exact ih5 _ _ _ _)
      | (with_reducible exact ih6 _ _ _ _ _ _ _)
      | (with_reducible exact csvr_Parse.mono _ _)
      | (with_reducible exact csvr_Print.mono _ _)
      | (with_reducible exact glebelaw9_awake.mono _)
      | (with_reducible exact LeO.refl _)
      | (with_reducible exact LeO.none _)
      | (with_reducible refine LeO.ite ?_ ?_)
      | (with_reducible refine LeO.bind ?_ (fun _ => ?_))
      | exact ih0 _ _ _ _ _
      | exact ih1 _ _ _ _ _ _
      | exact ih2 _ _ _ _ _ _ _ _ _
      | exact ih3 _
      | exact ih4 _ _ _
      | exact ih5 _ _ _ _
      | exact ih6 _ _ _ _ _ _ _
      | exact csvr_Parse.mono _ _
      | exact csvr_Print.mono _ _
      | exact glebelaw9_awake.mono _
      | exact LeO.none _
      | refine LeO.ite ?_ ?_
      | refine LeO.bind ?_ (fun _ => ?_)
set_option maxHeartbeats 8000000 in
set_option maxRecDepth 100000 in
theorem glebelaw9_CsvrBack.calls (k : Nat) (A0 : Option Addr) (c0 : Nat) (l0 : List (List Int)) (a1 : Int) (r : Bool) (w : World) (hr0 : Kd.C (Kd.slice 5 (Kd.int .u8)) w A0 l0.length l0) (hc0 : l0.length ≤ c0) (hMax : XM.Tabs w) (h : glebelaw9_CsvrBack.f k l0 a1 = some r) :
    Calls Tryd.prog 14 #[.slice A0 l0.length c0, .int .i64 a1] w fun e w' => e = .returned (.bool r) ∧ Below w.heap.size w w' := by
  have hu54 := Tryd.underlying54
  have HR0 := Aside0.mk hr0
  have HC0 := Aside0.mk hc0
  clear hr0 hc0
  have HB := Aside0.mk (Below.refl w.heap.size w)
  have H : (glebelaw9_CsvrBack.l0 k l0 a1 ([] : List (List ByteArray)) ([] : List ByteArray) 0) = some r := h
  clear h
  have H' := Aside0.mk H
  clear H
  go_enter Tryd.func14, Tryd.ntmps14
  go_wp2
  repeat (go_quiet (fail); try go_wp2)
  go_loopg [5, 6, 7] k (fun kq v5 v6 v7 w' => ∃ (x5_1 : List (List ByteArray)) (x6_1 : List ByteArray) (x7_1 : Int), v7 = .int .i64 x7_1 ∧ Aside0 (glebelaw9_CsvrBack.l0 kq l0 a1 x5_1 x6_1 x7_1 = some r) ∧ Aside0 (kq ≤ k) ∧ Aside0 (Kd.S (Kd.slice 9 Kd.string) 39 w' w.heap.size (fun k_ => some k_ ≠ (v6 : Value).ownBlock) v5 x5_1) ∧ Aside0 (Kd.R Kd.string 9 w' w.heap.size (fun _ => True) v6 x6_1) ∧ Aside0 (Below w.heap.size w w'))
  case atStart => exact ⟨(([] : List (List ByteArray))), (([] : List ByteArray)), (0), (by first | rfl | (simp only [i64_w]; done) | (simp; done) | (simp [*]; done)), H', ⟨Nat.le_refl _⟩, ⟨by first | exact Kd.S_nil _ _ _ _ _ | exact Kd.N_nil _ _ _ _ _ | exact Kd.V_nil _ _ _ _ _ | exact Kd.Q_nil _ _ _ _ _ | exact Kd.R_nil _ _ _ _ _⟩, ⟨by first | exact Kd.R_nil _ _ _ _ _ | exact Kd.N_nil _ _ _ _ _ | exact Kd.V_nil _ _ _ _ _ | exact Kd.Q_nil _ _ _ _ _ | exact Kd.S_nil _ _ _ _ _⟩, ⟨by repeat (first | (with_reducible first | exact HB.out | apply below_alloc | apply pw_below_drewN | apply below_drew1) | exact HB.out)⟩⟩
  case round =>
    clear H'
    try clear c1
    try clear p2
    obtain ⟨x5_1, x6_1, x7_1, rfl, HA, HK1, HO_5, HO_6, HB⟩ := hrel
    cases gk with
    | zero => exact absurd HA.out (by simp [glebelaw9_CsvrBack.l0])
    | succ k1 =>
      have H := HA.out
      clear HA
      simp only [glebelaw9_CsvrBack.l0] at H
      have HC3 := Aside0.mk H
      clear H
      go_upto_region 4 with (fail)
      repeat (go_quiet (fail); go_upto_region 4 with (fail))
      go_cut [22] (fun v22 wc => ∃ (kq : Nat) (x22_2 : Bool), v22 = .bool x22_2 ∧ Aside0 (glebelaw9_CsvrBack.j1 kq l0 a1 x5_1 x6_1 x7_1 x22_2 = some r) ∧ Aside0 (kq ≤ k1) ∧ Aside0 (Kd.S (Kd.slice 9 Kd.string) 39 wc w.heap.size (fun k_ => some k_ ≠ (u6 : Value).ownBlock) u5 x5_1) ∧ Aside0 (Kd.R Kd.string 9 wc w.heap.size (fun _ => True) u6 x6_1) ∧ Aside0 (Below w.heap.size w wc))
      case first =>
        have H := HC3.out
        clear HC3
        by_cases c4 : x7_1 < (l0.length : Int)
        · rw [if_pos c4] at H
          have c4b0 : decide (x7_1 < (l0.length : Int)) = true := decide_eq_true c4
          clear c4
          (first | rw [c4b0] | (simp only [i64_w, i32_w]; rw [c4b0]) | rw [c4b1] | skip)
          have H' := Aside0.mk H
          clear H
          go_wp2
          repeat (go_quiet (fail); try go_wp2)
          go_meet
          case rel => exact ⟨_, (decide (x7_1 < 30)), (by first | rfl | (simp only [i64_w]; done) | (simp; done) | (simp [*]; done)), H', ⟨by have := HK1.out; first | omega | exact Nat.le_refl _⟩, ⟨by (with_reducible repeat (first | apply Kd.S_alloc | apply Kd.S_drewN | apply Kd.S_drew)); exact HO_5.out⟩, ⟨by (with_reducible repeat (first | apply Kd.R_alloc | apply Kd.R_drewN | apply Kd.R_drew)); exact HO_6.out⟩, ⟨by repeat (first | (with_reducible first | exact HB.out | apply below_alloc | apply pw_below_drewN | apply below_drew1) | exact HB.out)⟩⟩
        · rw [if_neg c4] at H
          have c4b0 : decide (x7_1 < (l0.length : Int)) = false := decide_eq_false c4
          clear c4
          (first | rw [c4b0] | (simp only [i64_w, i32_w]; rw [c4b0]) | rw [c4b1] | skip)
          have H' := Aside0.mk H
          clear H
          go_wp2
          repeat (go_quiet (fail); try go_wp2)
          go_meet
          case rel => exact ⟨_, (false), (by first | rfl | (simp only [i64_w]; done) | (simp; done) | (simp [*]; done)), H', ⟨by have := HK1.out; first | omega | exact Nat.le_refl _⟩, ⟨by (with_reducible repeat (first | apply Kd.S_alloc | apply Kd.S_drewN | apply Kd.S_drew)); exact HO_5.out⟩, ⟨by (with_reducible repeat (first | apply Kd.R_alloc | apply Kd.R_drewN | apply Kd.R_drew)); exact HO_6.out⟩, ⟨by repeat (first | (with_reducible first | exact HB.out | apply below_alloc | apply pw_below_drewN | apply below_drew1) | exact HB.out)⟩⟩
      case rest =>
        clear HC3
        try clear c1
        try clear p2
        try clear c4
        try clear c4b0
        try clear p2
        obtain ⟨kq, x22_2, rfl, HA, HJ2, HO_5, HO_6, HB⟩ := hcut
        cases kq with
        | zero => exact absurd HA.out (by simp [glebelaw9_CsvrBack.j1])
        | succ kj2 =>
          have H := HA.out
          clear HA
          simp only [glebelaw9_CsvrBack.j1] at H
          by_cases c5 : x22_2 = true
          · subst c5
            have H1 : (if 0 ≤ x7_1 then (if x7_1 < (l0.length : Int) then (if ((rd_L7 l0 x7_1).length : Int) > 255 then ((glebelaw9_awake.f kj2).bind fun t474 => (some t474)) else (glebelaw9_CsvrBack.l1 kj2 l0 a1 x5_1 x6_1 x7_1 (⟨#[]⟩ : ByteArray) (rd_L7 l0 x7_1) ((rd_L7 l0 x7_1).length : Int) 0)) else (none)) else (none)) = some r := by rw [if_pos rfl] at H; exact H
            clear H
            have H := H1
            clear H1
            by_cases c6 : 0 ≤ x7_1
            · rw [if_pos c6] at H
              have c6b0 : decide (0 ≤ x7_1) = true := decide_eq_true c6
              clear c6
              by_cases c7 : x7_1 < (l0.length : Int)
              · rw [if_pos c7] at H
                have c7b0 : decide (x7_1 < (l0.length : Int)) = true := decide_eq_true c7
                clear c7
                by_cases c8 : ((rd_L7 l0 x7_1).length : Int) > 255
                · rw [if_pos c8] at H
                  have c8b0 : decide (255 < ((rd_L7 l0 x7_1).length : Int)) = true := decide_eq_true c8
                  have c8b1 : decide (255 < (rd_L7 l0 x7_1).length) = true := decide_eq_true (by omega)
                  clear c8
                  replace H := Option.bind_eq_some_iff.mp H
                  obtain ⟨t474, A90, H⟩ := H
                  replace H : (some t474) = some r := H
                  have A9 := Aside0.mk A90
                  clear A90
                  obtain rfl := Option.some.inj H
                  have p473 : 0 ≤ (x7_1 : Int) := of_decide_eq_true (by first | (with_reducible assumption) | assumption)
                  have q473 : x7_1 < (l0.length : Int) := of_decide_eq_true (by first | (with_reducible assumption) | assumption)
                  obtain ⟨ad473, A473_0, c473_0, e473, hx473_0, hl473_0, hi473_0⟩ := at_L7 HR0.out x7_1 p473 q473
                  cases e473
                  replace hx473_0 := (HB.out.cell (World.block_lt_of_cell? w _ hx473_0)).trans hx473_0
                  have HR473_0 := Aside0.mk hi473_0
                  have HC473_0 := Aside0.mk hl473_0
                  clear hi473_0 hl473_0
                  replace p473 := eq_true p473
                  replace q473 := eq_true q473
                  go_wp2_with (first | (go_at_call 34; (with_reducible refine (glebelaw9_awake.calls kj2  t474 _ ?side1 A9.out).mono ?_); (case side1 => exact XM.Tabs.below hMax (by repeat (first | (with_reducible first | exact HB.out | apply below_alloc | apply pw_below_drewN | apply below_drew1) | exact HB.out))); rintro e w10 ⟨rfl, hb⟩; have n0_ := Aside0.mk (Kd.S_below (by (with_reducible repeat (first | apply Kd.S_alloc | apply Kd.S_drewN | apply Kd.S_drew)); exact HO_5.out) hb); have n1_ := Aside0.mk (Kd.R_below (by (with_reducible repeat (first | apply Kd.R_alloc | apply Kd.R_drewN | apply Kd.R_drew)); exact HO_6.out) hb); have n2_ := Aside0.mk (below_step (by repeat (first | (with_reducible first | exact HB.out | apply below_alloc | apply pw_below_drewN | apply below_drew1) | exact HB.out)) hb); clear HO_5; clear HO_6; clear HB; have HO_5 := n0_; have HO_6 := n1_; have HB := n2_; clear n0_ n1_ n2_; (try clear hb); (try clear hb2); (try clear hk); (try clear hi)))
                  repeat (go_quiet (first | (go_at_call 34; (with_reducible refine (glebelaw9_awake.calls kj2  t474 _ ?side1 A9.out).mono ?_); (case side1 => exact XM.Tabs.below hMax (by repeat (first | (with_reducible first | exact HB.out | apply below_alloc | apply pw_below_drewN | apply below_drew1) | exact HB.out))); rintro e w10 ⟨rfl, hb⟩; have n0_ := Aside0.mk (Kd.S_below (by (with_reducible repeat (first | apply Kd.S_alloc | apply Kd.S_drewN | apply Kd.S_drew)); exact HO_5.out) hb); have n1_ := Aside0.mk (Kd.R_below (by (with_reducible repeat (first | apply Kd.R_alloc | apply Kd.R_drewN | apply Kd.R_drew)); exact HO_6.out) hb); have n2_ := Aside0.mk (below_step (by repeat (first | (with_reducible first | exact HB.out | apply below_alloc | apply pw_below_drewN | apply below_drew1) | exact HB.out)) hb); clear HO_5; clear HO_6; clear HB; have HO_5 := n0_; have HO_6 := n1_; have HB := n2_; clear n0_ n1_ n2_; (try clear hb); (try clear hb2); (try clear hk); (try clear hi))); try go_wp2_with (first | (go_at_call 34; (with_reducible refine (glebelaw9_awake.calls kj2  t474 _ ?side1 A9.out).mono ?_); (case side1 => exact XM.Tabs.below hMax (by repeat (first | (with_reducible first | exact HB.out | apply below_alloc | apply pw_below_drewN | apply below_drew1) | exact HB.out))); rintro e w10 ⟨rfl, hb⟩; have n0_ := Aside0.mk (Kd.S_below (by (with_reducible repeat (first | apply Kd.S_alloc | apply Kd.S_drewN | apply Kd.S_drew)); exact HO_5.out) hb); have n1_ := Aside0.mk (Kd.R_below (by (with_reducible repeat (first | apply Kd.R_alloc | apply Kd.R_drewN | apply Kd.R_drew)); exact HO_6.out) hb); have n2_ := Aside0.mk (below_step (by repeat (first | (with_reducible first | exact HB.out | apply below_alloc | apply pw_below_drewN | apply below_drew1) | exact HB.out)) hb); clear HO_5; clear HO_6; clear HB; have HO_5 := n0_; have HO_6 := n1_; have HB := n2_; clear n0_ n1_ n2_; (try clear hb); (try clear hb2); (try clear hk); (try clear hi))))
                  go_ret
                  exact ⟨by first | rfl | (simp [errW_none, errW_some] <;> rfl) | (simp [*, errW_none, errW_some] <;> rfl), by repeat (first | (with_reducible first | exact HB.out | apply below_alloc | apply pw_below_drewN | apply below_drew1) | exact HB.out)⟩
                · rw [if_neg c8] at H
                  have c8b0 : decide (255 < ((rd_L7 l0 x7_1).length : Int)) = false := decide_eq_false c8
                  have c8b1 : decide (255 < (rd_L7 l0 x7_1).length) = false := decide_eq_false (by omega)
                  clear c8
                  have H' := Aside0.mk H
                  clear H
                  have p473 : 0 ≤ (x7_1 : Int) := of_decide_eq_true (by first | (with_reducible assumption) | assumption)
                  have q473 : x7_1 < (l0.length : Int) := of_decide_eq_true (by first | (with_reducible assumption) | assumption)
                  obtain ⟨ad473, A473_0, c473_0, e473, hx473_0, hl473_0, hi473_0⟩ := at_L7 HR0.out x7_1 p473 q473
                  cases e473
                  replace hx473_0 := (HB.out.cell (World.block_lt_of_cell? w _ hx473_0)).trans hx473_0
                  have HR473_0 := Aside0.mk hi473_0
                  have HC473_0 := Aside0.mk hl473_0
                  clear hi473_0 hl473_0
                  replace p473 := eq_true p473
                  replace q473 := eq_true q473
                  have p475 : 0 ≤ (x7_1 : Int) := of_decide_eq_true (by first | (with_reducible assumption) | assumption)
                  have q475 : x7_1 < (l0.length : Int) := of_decide_eq_true (by first | (with_reducible assumption) | assumption)
                  obtain ⟨ad475, A475_0, c475_0, e475, hx475_0, hl475_0, hi475_0⟩ := at_L7 HR0.out x7_1 p475 q475
                  obtain rfl : ad473 = ad475 := (by injection e475)
                  replace hx475_0 := (HB.out.cell (World.block_lt_of_cell? w _ hx475_0)).trans hx475_0
                  have HR475_0 := Aside0.mk hi475_0
                  have HC475_0 := Aside0.mk hl475_0
                  clear hi475_0 hl475_0
                  replace p475 := eq_true p475
                  replace q475 := eq_true q475
                  have ea_ := Option.some.inj (hx473_0.symm.trans hx475_0)
                  injection ea_ with ea_ en_ ec_
                  subst ea_
                  subst ec_
                  clear en_
                  go_wp2
                  repeat (go_quiet (fail); try go_wp2)
                  go_loopg [8, 37] kj2 (fun kq v8 v37 w' => ∃ (x8_3 : ByteArray) (x37_3 : Int), v8 = .string x8_3 ∧ v37 = .int .i64 x37_3 ∧ Aside0 (glebelaw9_CsvrBack.l1 kq l0 a1 x5_1 x6_1 x7_1 x8_3 (rd_L7 l0 x7_1) ((rd_L7 l0 x7_1).length : Int) x37_3 = some r) ∧ Aside0 (kq ≤ kj2) ∧ Aside0 (Kd.S (Kd.slice 9 Kd.string) 39 w' w.heap.size (fun k_ => some k_ ≠ (u6 : Value).ownBlock) u5 x5_1) ∧ Aside0 (Kd.R Kd.string 9 w' w.heap.size (fun _ => True) u6 x6_1) ∧ Aside0 (Below w.heap.size w w'))
                  case atStart => exact ⟨((⟨#[]⟩ : ByteArray)), (0), (by first | rfl | (simp only [i64_w]; done) | (simp; done) | (simp [*]; done)), (by first | rfl | (simp only [i64_w]; done) | (simp; done) | (simp [*]; done)), H', ⟨Nat.le_refl _⟩, ⟨by (with_reducible repeat (first | apply Kd.S_alloc | apply Kd.S_drewN | apply Kd.S_drew)); exact HO_5.out⟩, ⟨by (with_reducible repeat (first | apply Kd.R_alloc | apply Kd.R_drewN | apply Kd.R_drew)); exact HO_6.out⟩, ⟨by repeat (first | (with_reducible first | exact HB.out | apply below_alloc | apply pw_below_drewN | apply below_drew1) | exact HB.out)⟩⟩
                  case round =>
                    clear H'
                    try clear c1
                    try clear p2
                    try clear c4
                    try clear c4b0
                    try clear p4
                    try clear q4
                    try clear hx4
                    try clear c5
                    try clear c6
                    try clear c6b0
                    try clear c7
                    try clear c7b0
                    try clear c8
                    try clear c8b0
                    try clear c8b1
                    try clear hx473_0
                    try clear hx475_0
                    try clear p2
                    try clear p473
                    try clear p475
                    try clear q473
                    try clear q475
                    obtain ⟨x8_3, x37_3, rfl, rfl, HA, HK3, HO_5, HO_6, HB⟩ := hrel
                    cases gk with
                    | zero => exact absurd HA.out (by simp [glebelaw9_CsvrBack.l1])
                    | succ k3 =>
                      have H := HA.out
                      clear HA
                      simp only [glebelaw9_CsvrBack.l1] at H
                      by_cases c11 : x37_3 < ((rd_L7 l0 x7_1).length : Int)
                      · rw [if_pos c11] at H
                        have c11b0 : decide (x37_3 < ((rd_L7 l0 x7_1).length : Int)) = true := decide_eq_true c11
                        clear c11
                        by_cases c12 : 0 ≤ x37_3
                        · rw [if_pos c12] at H
                          have c12b0 : decide (0 ≤ x37_3) = true := decide_eq_true c12
                          clear c12
                          by_cases c13 : x37_3 < ((rd_L7 l0 x7_1).length : Int)
                          · rw [if_pos c13] at H
                            have c13b0 : decide (x37_3 < ((rd_L7 l0 x7_1).length : Int)) = true := decide_eq_true c13
                            clear c13
                            obtain ⟨y477, hy477⟩ : ∃ y_ : List Int, y_ = (([10, 13, 34, 44, 97, 98, 32, 48, 49, 57] : List Int)) := ⟨_, rfl⟩
                            replace H : (if 0 ≤ (Int.tmod (Go.bits .and .u8 (rd (rd_L7 l0 x7_1) x37_3) 255) 10) then (if (Int.tmod (Go.bits .and .u8 (rd (rd_L7 l0 x7_1) x37_3) 255) 10) < (y477.length : Int) then ((some (([rd y477 (Int.tmod (Go.bits .and .u8 (rd (rd_L7 l0 x7_1) x37_3) 255) 10)] : List Int) : List Int)).bind fun y481 => (if x8_3.size + (strOfNums y481).size ≤ 9223372036854775807 then (glebelaw9_CsvrBack.l1 k3 l0 a1 x5_1 x6_1 x7_1 (x8_3 ++ (strOfNums y481)) (rd_L7 l0 x7_1) ((rd_L7 l0 x7_1).length : Int) (wrap64 (x37_3 + 1))) else (none))) else (none)) else (none)) = some r := by first | (rw [hy477]; with_reducible exact H) | (have H2_ := (Option.bind_some _ _).symm.trans H; rw [hy477]; with_reducible exact H2_) | (have H2_ := (Option.bind_some _ _).symm.trans H; with_reducible exact H2_) | with_reducible exact H | (rw [hy477]; exact H) | exact H
                            have Ny477 := Aside0.mk hy477
                            clear hy477
                            obtain ⟨ji14, hji14⟩ : ∃ j_ : Int, (Int.tmod (Go.bits .and .u8 (rd (rd_L7 l0 x7_1) x37_3) 255) 10) = j_ := ⟨_, rfl⟩
                            replace H : (if 0 ≤ (ji14) then (if (ji14) < (y477.length : Int) then ((some (([rd y477 (ji14)] : List Int) : List Int)).bind fun y481 => (if x8_3.size + (strOfNums y481).size ≤ 9223372036854775807 then (glebelaw9_CsvrBack.l1 k3 l0 a1 x5_1 x6_1 x7_1 (x8_3 ++ (strOfNums y481)) (rd_L7 l0 x7_1) ((rd_L7 l0 x7_1).length : Int) (wrap64 (x37_3 + 1))) else (none))) else (none)) else (none)) = some r := by first | (rw [hji14] at H; exact H) | (simp only [hji14] at H ⊢; exact H)
                            by_cases c15 : 0 ≤ (ji14)
                            · rw [if_pos c15] at H
                              have c15b0 : decide (0 ≤ (ji14)) = true := decide_eq_true c15
                              clear c15
                              by_cases c16 : (ji14) < (y477.length : Int)
                              · rw [if_pos c16] at H
                                have c16b0 : decide ((ji14) < (y477.length : Int)) = true := decide_eq_true c16
                                clear c16
                                obtain ⟨y481, hy481⟩ : ∃ y_ : List Int, y_ = (([rd y477 (ji14)] : List Int)) := ⟨_, rfl⟩
                                replace H : (if x8_3.size + (strOfNums y481).size ≤ 9223372036854775807 then (glebelaw9_CsvrBack.l1 k3 l0 a1 x5_1 x6_1 x7_1 (x8_3 ++ (strOfNums y481)) (rd_L7 l0 x7_1) ((rd_L7 l0 x7_1).length : Int) (wrap64 (x37_3 + 1))) else (none)) = some r := by first | (rw [hy481]; with_reducible exact H) | (have H2_ := (Option.bind_some _ _).symm.trans H; rw [hy481]; with_reducible exact H2_) | (have H2_ := (Option.bind_some _ _).symm.trans H; with_reducible exact H2_) | with_reducible exact H | (rw [hy481]; exact H) | exact H
                                have Ny481 := Aside0.mk hy481
                                clear hy481
                                by_cases c17 : x8_3.size + (strOfNums y481).size ≤ 9223372036854775807
                                · rw [if_pos c17] at H
                                  have c17b0 := eq_true c17
                                  have c17b1 : decide (x8_3.size + (strOfNums y481).size ≤ 9223372036854775807) = true := decide_eq_true c17
                                  try have c17b2 : (9223372036854775807 < x8_3.size + (strOfNums y481).size) = False := eq_false (Nat.not_lt.2 c17)
                                  have H' := Aside0.mk H
                                  clear H
                                  have p476 : 0 ≤ (x37_3 : Int) := of_decide_eq_true (by first | (with_reducible assumption) | assumption)
                                  have q476 : x37_3 < ((rd_L7 l0 x7_1).length : Int) := of_decide_eq_true (by first | (with_reducible assumption) | assumption)
                                  obtain ⟨ad476, e476, hx476_0⟩ := Kd.at_int HR475_0.out x37_3 p476 q476
                                  cases e476
                                  replace hx476_0 := (HB.out.cell (World.block_lt_of_cell? w _ hx476_0)).trans hx476_0
                                  replace p476 := eq_true p476
                                  replace q476 := eq_true q476
                                  go_wp2_with (first | ((with_reducible refine gate_dst (N := 43) rfl ?_); (try (refine gate_guard (by rfl) ?_; dsimp only)); refine XW.V_const _ 5 rfl (N := 43) rfl 35 _ rfl (xs := [10, 13, 34, 44, 97, 98, 32, 48, 49, 57]) rfl rfl (by first | rfl | (simp; done)) (by decide) Tryd.underlying35 Tryd.underlying5 (ok := (fun k_ => some k_ ≠ (u5 : Value).ownBlock ∧ some k_ ≠ (u6 : Value).ownBlock)) (fun k_ hk => ⟨Kd.fresh' (Kd.S_lt (by (with_reducible repeat (first | apply Kd.S_alloc | apply Kd.S_drewN | apply Kd.S_drew)); exact HO_5.out)) k_ hk, Kd.fresh' (Kd.R_lt (by (with_reducible repeat (first | apply Kd.R_alloc | apply Kd.R_drewN | apply Kd.R_drew)); exact HO_6.out)) k_ hk⟩) (Below.refl _ _) (Nat.le_refl _) ?_; intro v478 w18 ho19 hb hg_ hnew_; clear hg_ hnew_; (first | rw [← Ny477.out] at ho19 | (simp only [Int.reduceToNat] at ho19; rw [← Ny477.out] at ho19)); have n0_ := Aside0.mk (Kd.S_below (by (with_reducible repeat (first | apply Kd.S_alloc | apply Kd.S_drewN | apply Kd.S_drew)); exact HO_5.out) hb); have n1_ := Aside0.mk (Kd.R_below (by (with_reducible repeat (first | apply Kd.R_alloc | apply Kd.R_drewN | apply Kd.R_drew)); exact HO_6.out) hb); have n2_ := Aside0.mk (Kd.V_lower ho19 (below_size (by repeat (first | (with_reducible first | exact HB.out | apply below_alloc | apply pw_below_drewN | apply below_drew1) | exact HB.out)))); have n3_ := Aside0.mk (below_step (by repeat (first | (with_reducible first | exact HB.out | apply below_alloc | apply pw_below_drewN | apply below_drew1) | exact HB.out)) hb); clear HO_5; clear HO_6; clear HB; have HO_5 := n0_; have HO_6 := n1_; have HO479 := n2_; have HB := n3_; clear n0_ n1_ n2_ n3_; clear hb ho19; obtain ⟨Ao20, co20, eo20⟩ := Kd.V_slice HO479.out; subst eo20; have p480 : 0 ≤ ((ji14) : Int) := of_decide_eq_true (by first | (with_reducible assumption) | assumption); have q480 : (ji14) < (y477.length : Int) := of_decide_eq_true (by first | (with_reducible assumption) | assumption); obtain ⟨ad480, e480, hx480_0⟩ := Kd.at_int (Kd.V_reads' HO479.out).2.2 (ji14) p480 q480; cases e480; replace p480 := eq_true p480; replace q480 := eq_true q480) | ((with_reducible refine gate_dst (N := 49) rfl ?_); (try (refine gate_guard (by rfl) ?_; dsimp only)); refine Kd.R_lit (Kd.int .u8) _ 5 ?hg (N := 49) ?hd (xs := ([rd y477 (ji14)] : List Int)) (inner := [.int .u8 (rd y477 (ji14))]) (ok := fun _ => True) (okp := fun _ => True) ?hr ?hp (fun _ hk => hk) trivial (Below.refl _ _) (Nat.le_refl _) (by simp) ?_; (case hd => rfl); (case hg => rfl); (case hr => first | (go_simp; done) | (go_simp; rfl)); (case hp => exact (Reps.one (show Kd.M (Kd.int .u8) _ _ _ (rd y477 (ji14)) [.int .u8 (rd y477 (ji14))] from rfl) (Reps.none _ _))); intro v482 w21 ho22 hb hg_ hnew_; clear hg_ hnew_; (first | rw [← Ny481.out] at ho22 | (simp only [Int.reduceToNat] at ho22; rw [← Ny481.out] at ho22)); have n0_ := Aside0.mk (Kd.S_below (by (with_reducible repeat (first | apply Kd.S_alloc | apply Kd.S_drewN | apply Kd.S_drew)); exact HO_5.out) hb); have n1_ := Aside0.mk (Kd.R_below (by (with_reducible repeat (first | apply Kd.R_alloc | apply Kd.R_drewN | apply Kd.R_drew)); exact HO_6.out) hb); have n2_ := Aside0.mk (Kd.V_elder' (by (with_reducible repeat (first | apply Kd.V_alloc | apply Kd.V_drewN | apply Kd.V_drew)); exact HO479.out) (Kd.R_base ho22) hb); have n3_ := Aside0.mk (Kd.R_lower ho22 (below_size (by repeat (first | (with_reducible first | exact HB.out | apply below_alloc | apply pw_below_drewN | apply below_drew1) | exact HB.out)))); have n4_ := Aside0.mk (below_step (by repeat (first | (with_reducible first | exact HB.out | apply below_alloc | apply pw_below_drewN | apply below_drew1) | exact HB.out)) hb); clear HO_5; clear HO_6; clear HO479; clear HB; have HO_5 := n0_; have HO_6 := n1_; have HO479 := n2_; have HO483 := n3_; have HB := n4_; clear n0_ n1_ n2_ n3_ n4_; clear hb ho22; have hcv23 := own_string (P := Tryd.prog) Tryd.underlying35 Tryd.underlying5 Tryd.underlying9 (Kd.own_of_R HO483.out)))
                                  repeat (go_quiet (first | ((with_reducible refine gate_dst (N := 43) rfl ?_); (try (refine gate_guard (by rfl) ?_; dsimp only)); refine XW.V_const _ 5 rfl (N := 43) rfl 35 _ rfl (xs := [10, 13, 34, 44, 97, 98, 32, 48, 49, 57]) rfl rfl (by first | rfl | (simp; done)) (by decide) Tryd.underlying35 Tryd.underlying5 (ok := (fun k_ => some k_ ≠ (u5 : Value).ownBlock ∧ some k_ ≠ (u6 : Value).ownBlock)) (fun k_ hk => ⟨Kd.fresh' (Kd.S_lt (by (with_reducible repeat (first | apply Kd.S_alloc | apply Kd.S_drewN | apply Kd.S_drew)); exact HO_5.out)) k_ hk, Kd.fresh' (Kd.R_lt (by (with_reducible repeat (first | apply Kd.R_alloc | apply Kd.R_drewN | apply Kd.R_drew)); exact HO_6.out)) k_ hk⟩) (Below.refl _ _) (Nat.le_refl _) ?_; intro v478 w18 ho19 hb hg_ hnew_; clear hg_ hnew_; (first | rw [← Ny477.out] at ho19 | (simp only [Int.reduceToNat] at ho19; rw [← Ny477.out] at ho19)); have n0_ := Aside0.mk (Kd.S_below (by (with_reducible repeat (first | apply Kd.S_alloc | apply Kd.S_drewN | apply Kd.S_drew)); exact HO_5.out) hb); have n1_ := Aside0.mk (Kd.R_below (by (with_reducible repeat (first | apply Kd.R_alloc | apply Kd.R_drewN | apply Kd.R_drew)); exact HO_6.out) hb); have n2_ := Aside0.mk (Kd.V_lower ho19 (below_size (by repeat (first | (with_reducible first | exact HB.out | apply below_alloc | apply pw_below_drewN | apply below_drew1) | exact HB.out)))); have n3_ := Aside0.mk (below_step (by repeat (first | (with_reducible first | exact HB.out | apply below_alloc | apply pw_below_drewN | apply below_drew1) | exact HB.out)) hb); clear HO_5; clear HO_6; clear HB; have HO_5 := n0_; have HO_6 := n1_; have HO479 := n2_; have HB := n3_; clear n0_ n1_ n2_ n3_; clear hb ho19; obtain ⟨Ao20, co20, eo20⟩ := Kd.V_slice HO479.out; subst eo20; have p480 : 0 ≤ ((ji14) : Int) := of_decide_eq_true (by first | (with_reducible assumption) | assumption); have q480 : (ji14) < (y477.length : Int) := of_decide_eq_true (by first | (with_reducible assumption) | assumption); obtain ⟨ad480, e480, hx480_0⟩ := Kd.at_int (Kd.V_reads' HO479.out).2.2 (ji14) p480 q480; cases e480; replace p480 := eq_true p480; replace q480 := eq_true q480) | ((with_reducible refine gate_dst (N := 49) rfl ?_); (try (refine gate_guard (by rfl) ?_; dsimp only)); refine Kd.R_lit (Kd.int .u8) _ 5 ?hg (N := 49) ?hd (xs := ([rd y477 (ji14)] : List Int)) (inner := [.int .u8 (rd y477 (ji14))]) (ok := fun _ => True) (okp := fun _ => True) ?hr ?hp (fun _ hk => hk) trivial (Below.refl _ _) (Nat.le_refl _) (by simp) ?_; (case hd => rfl); (case hg => rfl); (case hr => first | (go_simp; done) | (go_simp; rfl)); (case hp => exact (Reps.one (show Kd.M (Kd.int .u8) _ _ _ (rd y477 (ji14)) [.int .u8 (rd y477 (ji14))] from rfl) (Reps.none _ _))); intro v482 w21 ho22 hb hg_ hnew_; clear hg_ hnew_; (first | rw [← Ny481.out] at ho22 | (simp only [Int.reduceToNat] at ho22; rw [← Ny481.out] at ho22)); have n0_ := Aside0.mk (Kd.S_below (by (with_reducible repeat (first | apply Kd.S_alloc | apply Kd.S_drewN | apply Kd.S_drew)); exact HO_5.out) hb); have n1_ := Aside0.mk (Kd.R_below (by (with_reducible repeat (first | apply Kd.R_alloc | apply Kd.R_drewN | apply Kd.R_drew)); exact HO_6.out) hb); have n2_ := Aside0.mk (Kd.V_elder' (by (with_reducible repeat (first | apply Kd.V_alloc | apply Kd.V_drewN | apply Kd.V_drew)); exact HO479.out) (Kd.R_base ho22) hb); have n3_ := Aside0.mk (Kd.R_lower ho22 (below_size (by repeat (first | (with_reducible first | exact HB.out | apply below_alloc | apply pw_below_drewN | apply below_drew1) | exact HB.out)))); have n4_ := Aside0.mk (below_step (by repeat (first | (with_reducible first | exact HB.out | apply below_alloc | apply pw_below_drewN | apply below_drew1) | exact HB.out)) hb); clear HO_5; clear HO_6; clear HO479; clear HB; have HO_5 := n0_; have HO_6 := n1_; have HO479 := n2_; have HO483 := n3_; have HB := n4_; clear n0_ n1_ n2_ n3_ n4_; clear hb ho22; have hcv23 := own_string (P := Tryd.prog) Tryd.underlying35 Tryd.underlying5 Tryd.underlying9 (Kd.own_of_R HO483.out))); try go_wp2_with (first | ((with_reducible refine gate_dst (N := 43) rfl ?_); (try (refine gate_guard (by rfl) ?_; dsimp only)); refine XW.V_const _ 5 rfl (N := 43) rfl 35 _ rfl (xs := [10, 13, 34, 44, 97, 98, 32, 48, 49, 57]) rfl rfl (by first | rfl | (simp; done)) (by decide) Tryd.underlying35 Tryd.underlying5 (ok := (fun k_ => some k_ ≠ (u5 : Value).ownBlock ∧ some k_ ≠ (u6 : Value).ownBlock)) (fun k_ hk => ⟨Kd.fresh' (Kd.S_lt (by (with_reducible repeat (first | apply Kd.S_alloc | apply Kd.S_drewN | apply Kd.S_drew)); exact HO_5.out)) k_ hk, Kd.fresh' (Kd.R_lt (by (with_reducible repeat (first | apply Kd.R_alloc | apply Kd.R_drewN | apply Kd.R_drew)); exact HO_6.out)) k_ hk⟩) (Below.refl _ _) (Nat.le_refl _) ?_; intro v478 w18 ho19 hb hg_ hnew_; clear hg_ hnew_; (first | rw [← Ny477.out] at ho19 | (simp only [Int.reduceToNat] at ho19; rw [← Ny477.out] at ho19)); have n0_ := Aside0.mk (Kd.S_below (by (with_reducible repeat (first | apply Kd.S_alloc | apply Kd.S_drewN | apply Kd.S_drew)); exact HO_5.out) hb); have n1_ := Aside0.mk (Kd.R_below (by (with_reducible repeat (first | apply Kd.R_alloc | apply Kd.R_drewN | apply Kd.R_drew)); exact HO_6.out) hb); have n2_ := Aside0.mk (Kd.V_lower ho19 (below_size (by repeat (first | (with_reducible first | exact HB.out | apply below_alloc | apply pw_below_drewN | apply below_drew1) | exact HB.out)))); have n3_ := Aside0.mk (below_step (by repeat (first | (with_reducible first | exact HB.out | apply below_alloc | apply pw_below_drewN | apply below_drew1) | exact HB.out)) hb); clear HO_5; clear HO_6; clear HB; have HO_5 := n0_; have HO_6 := n1_; have HO479 := n2_; have HB := n3_; clear n0_ n1_ n2_ n3_; clear hb ho19; obtain ⟨Ao20, co20, eo20⟩ := Kd.V_slice HO479.out; subst eo20; have p480 : 0 ≤ ((ji14) : Int) := of_decide_eq_true (by first | (with_reducible assumption) | assumption); have q480 : (ji14) < (y477.length : Int) := of_decide_eq_true (by first | (with_reducible assumption) | assumption); obtain ⟨ad480, e480, hx480_0⟩ := Kd.at_int (Kd.V_reads' HO479.out).2.2 (ji14) p480 q480; cases e480; replace p480 := eq_true p480; replace q480 := eq_true q480) | ((with_reducible refine gate_dst (N := 49) rfl ?_); (try (refine gate_guard (by rfl) ?_; dsimp only)); refine Kd.R_lit (Kd.int .u8) _ 5 ?hg (N := 49) ?hd (xs := ([rd y477 (ji14)] : List Int)) (inner := [.int .u8 (rd y477 (ji14))]) (ok := fun _ => True) (okp := fun _ => True) ?hr ?hp (fun _ hk => hk) trivial (Below.refl _ _) (Nat.le_refl _) (by simp) ?_; (case hd => rfl); (case hg => rfl); (case hr => first | (go_simp; done) | (go_simp; rfl)); (case hp => exact (Reps.one (show Kd.M (Kd.int .u8) _ _ _ (rd y477 (ji14)) [.int .u8 (rd y477 (ji14))] from rfl) (Reps.none _ _))); intro v482 w21 ho22 hb hg_ hnew_; clear hg_ hnew_; (first | rw [← Ny481.out] at ho22 | (simp only [Int.reduceToNat] at ho22; rw [← Ny481.out] at ho22)); have n0_ := Aside0.mk (Kd.S_below (by (with_reducible repeat (first | apply Kd.S_alloc | apply Kd.S_drewN | apply Kd.S_drew)); exact HO_5.out) hb); have n1_ := Aside0.mk (Kd.R_below (by (with_reducible repeat (first | apply Kd.R_alloc | apply Kd.R_drewN | apply Kd.R_drew)); exact HO_6.out) hb); have n2_ := Aside0.mk (Kd.V_elder' (by (with_reducible repeat (first | apply Kd.V_alloc | apply Kd.V_drewN | apply Kd.V_drew)); exact HO479.out) (Kd.R_base ho22) hb); have n3_ := Aside0.mk (Kd.R_lower ho22 (below_size (by repeat (first | (with_reducible first | exact HB.out | apply below_alloc | apply pw_below_drewN | apply below_drew1) | exact HB.out)))); have n4_ := Aside0.mk (below_step (by repeat (first | (with_reducible first | exact HB.out | apply below_alloc | apply pw_below_drewN | apply below_drew1) | exact HB.out)) hb); clear HO_5; clear HO_6; clear HO479; clear HB; have HO_5 := n0_; have HO_6 := n1_; have HO479 := n2_; have HO483 := n3_; have HB := n4_; clear n0_ n1_ n2_ n3_ n4_; clear hb ho22; have hcv23 := own_string (P := Tryd.prog) Tryd.underlying35 Tryd.underlying5 Tryd.underlying9 (Kd.own_of_R HO483.out))))
                                  go_roundg k3
                                  case measure => have := HK1.out; have := HJ2.out; have := HK3.out; omega
                                  case rel => exact ⟨(x8_3 ++ (strOfNums y481)), (wrap64 (x37_3 + 1)), (by first | rfl | (simp only [i64_w]; done) | (simp; done) | (simp [*]; done)), (by first | rfl | (simp only [i64_w]; done) | (simp; done) | (simp [*]; done)), H', ⟨by have := HK1.out; have := HJ2.out; have := HK3.out; omega⟩, ⟨by (with_reducible repeat (first | apply Kd.S_alloc | apply Kd.S_drewN | apply Kd.S_drew)); exact HO_5.out⟩, ⟨by (with_reducible repeat (first | apply Kd.R_alloc | apply Kd.R_drewN | apply Kd.R_drew)); exact HO_6.out⟩, ⟨by repeat (first | (with_reducible first | exact HB.out | apply below_alloc | apply pw_below_drewN | apply below_drew1) | exact HB.out)⟩⟩
                                · rw [if_neg c17] at H
                                  exact absurd H (by simp)
                              · rw [if_neg c16] at H
                                exact absurd H (by simp)
                            · rw [if_neg c15] at H
                              exact absurd H (by simp)
                          · rw [if_neg c13] at H
                            exact absurd H (by simp)
                        · rw [if_neg c12] at H
                          exact absurd H (by simp)
                      · rw [if_neg c11] at H
                        have c11b0 : decide (x37_3 < ((rd_L7 l0 x7_1).length : Int)) = false := decide_eq_false c11
                        clear c11
                        by_cases c24 : x6_1.length < 8796093022208
                        · rw [if_pos c24] at H
                          have LMc24 := Aside0.mk c24
                          clear c24
                          obtain ⟨y484, hy484⟩ : ∃ y_ : List ByteArray, y_ = (x6_1 ++ [x8_3]) := ⟨_, rfl⟩
                          replace H : (if 0 ≤ (IntKind.u64.wrap (x7_1)) then (if (Go.bits .and .i64 (shr .i64 a1 (IntKind.u64.wrap (x7_1))) 1) = 1 then (if x5_1.length < 5864062014805 then (glebelaw9_CsvrBack.l0 k3 l0 a1 (x5_1 ++ [y484]) ([] : List ByteArray) (wrap64 (x7_1 + 1))) else (none)) else (glebelaw9_CsvrBack.l0 k3 l0 a1 x5_1 y484 (wrap64 (x7_1 + 1)))) else (none)) = some r := by first | (rw [hy484]; with_reducible exact H) | (have H2_ := (Option.bind_some _ _).symm.trans H; rw [hy484]; with_reducible exact H2_) | (have H2_ := (Option.bind_some _ _).symm.trans H; with_reducible exact H2_) | with_reducible exact H | (rw [hy484]; exact H) | exact H
                          have Ny484 := Aside0.mk hy484
                          clear hy484
                          obtain ⟨ji25, hji25⟩ : ∃ j_ : Int, (IntKind.u64.wrap (x7_1)) = j_ := ⟨_, rfl⟩
                          replace H : (if 0 ≤ (ji25) then (if (Go.bits .and .i64 (shr .i64 a1 (ji25)) 1) = 1 then (if x5_1.length < 5864062014805 then (glebelaw9_CsvrBack.l0 k3 l0 a1 (x5_1 ++ [y484]) ([] : List ByteArray) (wrap64 (x7_1 + 1))) else (none)) else (glebelaw9_CsvrBack.l0 k3 l0 a1 x5_1 y484 (wrap64 (x7_1 + 1)))) else (none)) = some r := by first | (rw [hji25] at H; exact H) | (simp only [hji25] at H ⊢; exact H)
                          by_cases c26 : 0 ≤ (ji25)
                          · rw [if_pos c26] at H
                            have c26b0 := eq_true c26
                            have c26b1 : decide (0 ≤ (ji25)) = true := decide_eq_true c26
                            clear c26
                            obtain ⟨ji27, hji27⟩ : ∃ j_ : Int, (shr .i64 a1 (ji25)) = j_ := ⟨_, rfl⟩
                            replace H : (if (Go.bits .and .i64 (ji27) 1) = 1 then (if x5_1.length < 5864062014805 then (glebelaw9_CsvrBack.l0 k3 l0 a1 (x5_1 ++ [y484]) ([] : List ByteArray) (wrap64 (x7_1 + 1))) else (none)) else (glebelaw9_CsvrBack.l0 k3 l0 a1 x5_1 y484 (wrap64 (x7_1 + 1)))) = some r := by first | (rw [hji27] at H; exact H) | (simp only [hji27] at H ⊢; exact H)
                            have hji27_ : (a1 / 2 ^ min (ji25).toNat 64) = ji27 := hji27
                            have hji27z : (ji25) ≤ 64 → (a1 / 2 ^ (ji25).toNat) = ji27 := shr_small hji27
                            by_cases c28 : (Go.bits .and .i64 (ji27) 1) = 1
                            · rw [if_pos c28] at H
                              have c28b0 : ((Go.bits .and .i64 (ji27) 1) == 1) = true := beq_iff_eq.mpr c28
                              have c28b1 : ((Go.bits .and .i64 (ji27) 1) != 1) = false := bne_eq_false_iff_eq.mpr c28
                              clear c28
                              by_cases c29 : x5_1.length < 5864062014805
                              · rw [if_pos c29] at H
                                have LMc29 := Aside0.mk c29
                                clear c29
                                obtain ⟨y487, hy487⟩ : ∃ y_ : List (List ByteArray), y_ = (x5_1 ++ [y484]) := ⟨_, rfl⟩
                                replace H : (glebelaw9_CsvrBack.l0 k3 l0 a1 y487 ([] : List ByteArray) (wrap64 (x7_1 + 1))) = some r := by first | (rw [hy487]; with_reducible exact H) | (have H2_ := (Option.bind_some _ _).symm.trans H; rw [hy487]; with_reducible exact H2_) | (have H2_ := (Option.bind_some _ _).symm.trans H; with_reducible exact H2_) | with_reducible exact H | (rw [hy487]; exact H) | exact H
                                have Ny487 := Aside0.mk hy487
                                clear hy487
                                have H' := Aside0.mk H
                                clear H
                                go_wp2_with (first | ((with_reducible refine gate_builtin (b := .append) (xs := #[.tmp 53, .tmp 55]) rfl ?_); (try (refine gate_guard (by rfl) ?_; dsimp only)); at_builtin; refine Kd.R_append Kd.string (w0 := w) w.heap.size rfl (.tmp 53) (.tmp 55) 39 9 (.string ⟨#[]⟩) 16 rfl Tryd.underlying39 info9 rfl (by decide) (by omega) u6 x6_1 x8_3 [.string x8_3] (fun _ => True) (fun _ => False) rfl rfl ?aP (fun _ hk => hk.elim) ?aF ?aO ?aB ?aS ?aL ?_; (case aP => exact rfl); (case aB => exact (by repeat (first | (with_reducible first | exact HB.out | apply below_alloc | apply pw_below_drewN | apply below_drew1) | exact HB.out))); (case aF => exact (fun _ _ => trivial)); (case aO => exact (by (with_reducible repeat (first | apply Kd.R_alloc | apply Kd.R_drewN | apply Kd.R_drew)); exact HO_6.out)); (case aS => exact (below_size (by repeat (first | (with_reducible first | exact HB.out | apply below_alloc | apply pw_below_drewN | apply below_drew1) | exact HB.out)))); (case aL => have := LMc24.out; omega); intro v485 w30 ho hb hg hat; rw [← Ny484.out] at ho; have n0_ := Aside0.mk (Kd.S_after (ok := (fun _ => True)) (by (with_reducible repeat (first | apply Kd.S_alloc | apply Kd.S_drewN | apply Kd.S_drew)); exact Kd.S_mono HO_5.out (fun _ hk => ⟨trivial, hk⟩)) hg hat); have n1_ := Aside0.mk (hb); have n2_ := Aside0.mk (ho); clear HO_5; clear HB; clear HO_6; have HO_5 := n0_; have HB := n1_; have HO486 := n2_; clear n0_ n1_ n2_; clear ho hb hg hat; obtain ⟨Ao32, co32, eo32⟩ := Kd.R_slice HO486.out; subst eo32) | ((with_reducible refine gate_builtin (b := .append) (xs := #[.tmp 63, .tmp 65]) rfl ?_); (try (refine gate_guard (by rfl) ?_; dsimp only)); at_builtin; refine Kd.S_append (Kd.slice 9 Kd.string) (w0 := w) w.heap.size rfl (.tmp 63) (.tmp 65) 66 39 (.slice none 0 0) 24 rfl Tryd.underlying66 info39 rfl (by decide) (by omega) u5 x5_1 y484 [.slice Ao32 y484.length co32] (fun _ => True) (fun k_ => some k_ = (.slice Ao32 y484.length co32 : Value).ownBlock) rfl rfl ?aP (fun k_ hk_ => ((Kd.R_mono (ok' := fun k_ => ((fun _ => True)) k_ ∧ some k_ ≠ (u5 : Value).ownBlock) (Kd.R_apart' (HO486.out) (Kd.S_typed HO_5.out) (by decide)) (fun k_ hk => ⟨trivial, hk.2⟩))).1 k_ hk_.symm) ?aF ?aO ?aB ?aS ?aL ?_; (case aP => exact Kd.M_row (Kd.R_mono (Kd.R_tight rfl (Kd.R_mono (ok' := fun k_ => ((fun _ => True)) k_ ∧ some k_ ≠ (u5 : Value).ownBlock) (Kd.R_apart' (HO486.out) (Kd.S_typed HO_5.out) (by decide)) (fun k_ hk => ⟨trivial, hk.2⟩))) (fun _ h_ => h_))); (case aB => exact (by repeat (first | (with_reducible first | exact HB.out | apply below_alloc | apply pw_below_drewN | apply below_drew1) | exact HB.out))); (case aF => exact (fun _ _ => trivial)); (case aO => exact (by (with_reducible repeat (first | apply Kd.S_alloc | apply Kd.S_drewN | apply Kd.S_drew)); exact Kd.S_mono HO_5.out (fun k_ hk => ⟨trivial, fun e_ => hk.2 e_⟩))); (case aS => exact (below_size (by repeat (first | (with_reducible first | exact HB.out | apply below_alloc | apply pw_below_drewN | apply below_drew1) | exact HB.out)))); (case aL => have := LMc29.out; omega); intro v488 w31 ho hb hg hat; rw [← Ny487.out] at ho; have n0_ := Aside0.mk (hb); have n1_ := Aside0.mk (ho); clear HB; clear HO_5; clear HO486; have HB := n0_; have HO489 := n1_; clear n0_ n1_; clear ho hb hg hat))
                                repeat (go_quiet (first | ((with_reducible refine gate_builtin (b := .append) (xs := #[.tmp 53, .tmp 55]) rfl ?_); (try (refine gate_guard (by rfl) ?_; dsimp only)); at_builtin; refine Kd.R_append Kd.string (w0 := w) w.heap.size rfl (.tmp 53) (.tmp 55) 39 9 (.string ⟨#[]⟩) 16 rfl Tryd.underlying39 info9 rfl (by decide) (by omega) u6 x6_1 x8_3 [.string x8_3] (fun _ => True) (fun _ => False) rfl rfl ?aP (fun _ hk => hk.elim) ?aF ?aO ?aB ?aS ?aL ?_; (case aP => exact rfl); (case aB => exact (by repeat (first | (with_reducible first | exact HB.out | apply below_alloc | apply pw_below_drewN | apply below_drew1) | exact HB.out))); (case aF => exact (fun _ _ => trivial)); (case aO => exact (by (with_reducible repeat (first | apply Kd.R_alloc | apply Kd.R_drewN | apply Kd.R_drew)); exact HO_6.out)); (case aS => exact (below_size (by repeat (first | (with_reducible first | exact HB.out | apply below_alloc | apply pw_below_drewN | apply below_drew1) | exact HB.out)))); (case aL => have := LMc24.out; omega); intro v485 w30 ho hb hg hat; rw [← Ny484.out] at ho; have n0_ := Aside0.mk (Kd.S_after (ok := (fun _ => True)) (by (with_reducible repeat (first | apply Kd.S_alloc | apply Kd.S_drewN | apply Kd.S_drew)); exact Kd.S_mono HO_5.out (fun _ hk => ⟨trivial, hk⟩)) hg hat); have n1_ := Aside0.mk (hb); have n2_ := Aside0.mk (ho); clear HO_5; clear HB; clear HO_6; have HO_5 := n0_; have HB := n1_; have HO486 := n2_; clear n0_ n1_ n2_; clear ho hb hg hat; obtain ⟨Ao32, co32, eo32⟩ := Kd.R_slice HO486.out; subst eo32) | ((with_reducible refine gate_builtin (b := .append) (xs := #[.tmp 63, .tmp 65]) rfl ?_); (try (refine gate_guard (by rfl) ?_; dsimp only)); at_builtin; refine Kd.S_append (Kd.slice 9 Kd.string) (w0 := w) w.heap.size rfl (.tmp 63) (.tmp 65) 66 39 (.slice none 0 0) 24 rfl Tryd.underlying66 info39 rfl (by decide) (by omega) u5 x5_1 y484 [.slice Ao32 y484.length co32] (fun _ => True) (fun k_ => some k_ = (.slice Ao32 y484.length co32 : Value).ownBlock) rfl rfl ?aP (fun k_ hk_ => ((Kd.R_mono (ok' := fun k_ => ((fun _ => True)) k_ ∧ some k_ ≠ (u5 : Value).ownBlock) (Kd.R_apart' (HO486.out) (Kd.S_typed HO_5.out) (by decide)) (fun k_ hk => ⟨trivial, hk.2⟩))).1 k_ hk_.symm) ?aF ?aO ?aB ?aS ?aL ?_; (case aP => exact Kd.M_row (Kd.R_mono (Kd.R_tight rfl (Kd.R_mono (ok' := fun k_ => ((fun _ => True)) k_ ∧ some k_ ≠ (u5 : Value).ownBlock) (Kd.R_apart' (HO486.out) (Kd.S_typed HO_5.out) (by decide)) (fun k_ hk => ⟨trivial, hk.2⟩))) (fun _ h_ => h_))); (case aB => exact (by repeat (first | (with_reducible first | exact HB.out | apply below_alloc | apply pw_below_drewN | apply below_drew1) | exact HB.out))); (case aF => exact (fun _ _ => trivial)); (case aO => exact (by (with_reducible repeat (first | apply Kd.S_alloc | apply Kd.S_drewN | apply Kd.S_drew)); exact Kd.S_mono HO_5.out (fun k_ hk => ⟨trivial, fun e_ => hk.2 e_⟩))); (case aS => exact (below_size (by repeat (first | (with_reducible first | exact HB.out | apply below_alloc | apply pw_below_drewN | apply below_drew1) | exact HB.out)))); (case aL => have := LMc29.out; omega); intro v488 w31 ho hb hg hat; rw [← Ny487.out] at ho; have n0_ := Aside0.mk (hb); have n1_ := Aside0.mk (ho); clear HB; clear HO_5; clear HO486; have HB := n0_; have HO489 := n1_; clear n0_ n1_; clear ho hb hg hat)); try go_wp2_with (first | ((with_reducible refine gate_builtin (b := .append) (xs := #[.tmp 53, .tmp 55]) rfl ?_); (try (refine gate_guard (by rfl) ?_; dsimp only)); at_builtin; refine Kd.R_append Kd.string (w0 := w) w.heap.size rfl (.tmp 53) (.tmp 55) 39 9 (.string ⟨#[]⟩) 16 rfl Tryd.underlying39 info9 rfl (by decide) (by omega) u6 x6_1 x8_3 [.string x8_3] (fun _ => True) (fun _ => False) rfl rfl ?aP (fun _ hk => hk.elim) ?aF ?aO ?aB ?aS ?aL ?_; (case aP => exact rfl); (case aB => exact (by repeat (first | (with_reducible first | exact HB.out | apply below_alloc | apply pw_below_drewN | apply below_drew1) | exact HB.out))); (case aF => exact (fun _ _ => trivial)); (case aO => exact (by (with_reducible repeat (first | apply Kd.R_alloc | apply Kd.R_drewN | apply Kd.R_drew)); exact HO_6.out)); (case aS => exact (below_size (by repeat (first | (with_reducible first | exact HB.out | apply below_alloc | apply pw_below_drewN | apply below_drew1) | exact HB.out)))); (case aL => have := LMc24.out; omega); intro v485 w30 ho hb hg hat; rw [← Ny484.out] at ho; have n0_ := Aside0.mk (Kd.S_after (ok := (fun _ => True)) (by (with_reducible repeat (first | apply Kd.S_alloc | apply Kd.S_drewN | apply Kd.S_drew)); exact Kd.S_mono HO_5.out (fun _ hk => ⟨trivial, hk⟩)) hg hat); have n1_ := Aside0.mk (hb); have n2_ := Aside0.mk (ho); clear HO_5; clear HB; clear HO_6; have HO_5 := n0_; have HB := n1_; have HO486 := n2_; clear n0_ n1_ n2_; clear ho hb hg hat; obtain ⟨Ao32, co32, eo32⟩ := Kd.R_slice HO486.out; subst eo32) | ((with_reducible refine gate_builtin (b := .append) (xs := #[.tmp 63, .tmp 65]) rfl ?_); (try (refine gate_guard (by rfl) ?_; dsimp only)); at_builtin; refine Kd.S_append (Kd.slice 9 Kd.string) (w0 := w) w.heap.size rfl (.tmp 63) (.tmp 65) 66 39 (.slice none 0 0) 24 rfl Tryd.underlying66 info39 rfl (by decide) (by omega) u5 x5_1 y484 [.slice Ao32 y484.length co32] (fun _ => True) (fun k_ => some k_ = (.slice Ao32 y484.length co32 : Value).ownBlock) rfl rfl ?aP (fun k_ hk_ => ((Kd.R_mono (ok' := fun k_ => ((fun _ => True)) k_ ∧ some k_ ≠ (u5 : Value).ownBlock) (Kd.R_apart' (HO486.out) (Kd.S_typed HO_5.out) (by decide)) (fun k_ hk => ⟨trivial, hk.2⟩))).1 k_ hk_.symm) ?aF ?aO ?aB ?aS ?aL ?_; (case aP => exact Kd.M_row (Kd.R_mono (Kd.R_tight rfl (Kd.R_mono (ok' := fun k_ => ((fun _ => True)) k_ ∧ some k_ ≠ (u5 : Value).ownBlock) (Kd.R_apart' (HO486.out) (Kd.S_typed HO_5.out) (by decide)) (fun k_ hk => ⟨trivial, hk.2⟩))) (fun _ h_ => h_))); (case aB => exact (by repeat (first | (with_reducible first | exact HB.out | apply below_alloc | apply pw_below_drewN | apply below_drew1) | exact HB.out))); (case aF => exact (fun _ _ => trivial)); (case aO => exact (by (with_reducible repeat (first | apply Kd.S_alloc | apply Kd.S_drewN | apply Kd.S_drew)); exact Kd.S_mono HO_5.out (fun k_ hk => ⟨trivial, fun e_ => hk.2 e_⟩))); (case aS => exact (below_size (by repeat (first | (with_reducible first | exact HB.out | apply below_alloc | apply pw_below_drewN | apply below_drew1) | exact HB.out)))); (case aL => have := LMc29.out; omega); intro v488 w31 ho hb hg hat; rw [← Ny487.out] at ho; have n0_ := Aside0.mk (hb); have n1_ := Aside0.mk (ho); clear HB; clear HO_5; clear HO486; have HB := n0_; have HO489 := n1_; clear n0_ n1_; clear ho hb hg hat)))
                                go_roundg k3
                                case measure => have := HK1.out; have := HJ2.out; have := HK3.out; omega
                                case rel => exact ⟨(y487), (([] : List ByteArray)), (wrap64 (x7_1 + 1)), (by first | rfl | (simp only [i64_w]; done) | (simp; done) | (simp [*]; done)), H', ⟨by have := HK1.out; have := HJ2.out; have := HK3.out; omega⟩, ⟨by (with_reducible repeat (first | apply Kd.S_alloc | apply Kd.S_drewN | apply Kd.S_drew)); exact Kd.S_mono HO489.out (fun _ hk => (by simp [Value.ownBlock]))⟩, ⟨by first | exact Kd.R_nil _ _ _ _ _ | exact Kd.N_nil _ _ _ _ _ | exact Kd.V_nil _ _ _ _ _ | exact Kd.Q_nil _ _ _ _ _ | exact Kd.S_nil _ _ _ _ _⟩, ⟨by repeat (first | (with_reducible first | exact HB.out | apply below_alloc | apply pw_below_drewN | apply below_drew1) | exact HB.out)⟩⟩
                              · rw [if_neg c29] at H
                                exact absurd H (by simp)
                            · rw [if_neg c28] at H
                              have c28b0 : ((Go.bits .and .i64 (ji27) 1) == 1) = false := beq_eq_false_iff_ne.mpr c28
                              have c28b1 : ((Go.bits .and .i64 (ji27) 1) != 1) = true := bne_iff_ne.mpr c28
                              have H' := Aside0.mk H
                              clear H
                              go_wp2_with (first | ((with_reducible refine gate_builtin (b := .append) (xs := #[.tmp 53, .tmp 55]) rfl ?_); (try (refine gate_guard (by rfl) ?_; dsimp only)); at_builtin; refine Kd.R_append Kd.string (w0 := w) w.heap.size rfl (.tmp 53) (.tmp 55) 39 9 (.string ⟨#[]⟩) 16 rfl Tryd.underlying39 info9 rfl (by decide) (by omega) u6 x6_1 x8_3 [.string x8_3] (fun _ => True) (fun _ => False) rfl rfl ?aP (fun _ hk => hk.elim) ?aF ?aO ?aB ?aS ?aL ?_; (case aP => exact rfl); (case aB => exact (by repeat (first | (with_reducible first | exact HB.out | apply below_alloc | apply pw_below_drewN | apply below_drew1) | exact HB.out))); (case aF => exact (fun _ _ => trivial)); (case aO => exact (by (with_reducible repeat (first | apply Kd.R_alloc | apply Kd.R_drewN | apply Kd.R_drew)); exact HO_6.out)); (case aS => exact (below_size (by repeat (first | (with_reducible first | exact HB.out | apply below_alloc | apply pw_below_drewN | apply below_drew1) | exact HB.out)))); (case aL => have := LMc24.out; omega); intro v485 w33 ho hb hg hat; rw [← Ny484.out] at ho; have n0_ := Aside0.mk (Kd.S_after (ok := (fun _ => True)) (by (with_reducible repeat (first | apply Kd.S_alloc | apply Kd.S_drewN | apply Kd.S_drew)); exact Kd.S_mono HO_5.out (fun _ hk => ⟨trivial, hk⟩)) hg hat); have n1_ := Aside0.mk (hb); have n2_ := Aside0.mk (ho); clear HO_5; clear HB; clear HO_6; have HO_5 := n0_; have HB := n1_; have HO486 := n2_; clear n0_ n1_ n2_; clear ho hb hg hat))
                              repeat (go_quiet (first | ((with_reducible refine gate_builtin (b := .append) (xs := #[.tmp 53, .tmp 55]) rfl ?_); (try (refine gate_guard (by rfl) ?_; dsimp only)); at_builtin; refine Kd.R_append Kd.string (w0 := w) w.heap.size rfl (.tmp 53) (.tmp 55) 39 9 (.string ⟨#[]⟩) 16 rfl Tryd.underlying39 info9 rfl (by decide) (by omega) u6 x6_1 x8_3 [.string x8_3] (fun _ => True) (fun _ => False) rfl rfl ?aP (fun _ hk => hk.elim) ?aF ?aO ?aB ?aS ?aL ?_; (case aP => exact rfl); (case aB => exact (by repeat (first | (with_reducible first | exact HB.out | apply below_alloc | apply pw_below_drewN | apply below_drew1) | exact HB.out))); (case aF => exact (fun _ _ => trivial)); (case aO => exact (by (with_reducible repeat (first | apply Kd.R_alloc | apply Kd.R_drewN | apply Kd.R_drew)); exact HO_6.out)); (case aS => exact (below_size (by repeat (first | (with_reducible first | exact HB.out | apply below_alloc | apply pw_below_drewN | apply below_drew1) | exact HB.out)))); (case aL => have := LMc24.out; omega); intro v485 w33 ho hb hg hat; rw [← Ny484.out] at ho; have n0_ := Aside0.mk (Kd.S_after (ok := (fun _ => True)) (by (with_reducible repeat (first | apply Kd.S_alloc | apply Kd.S_drewN | apply Kd.S_drew)); exact Kd.S_mono HO_5.out (fun _ hk => ⟨trivial, hk⟩)) hg hat); have n1_ := Aside0.mk (hb); have n2_ := Aside0.mk (ho); clear HO_5; clear HB; clear HO_6; have HO_5 := n0_; have HB := n1_; have HO486 := n2_; clear n0_ n1_ n2_; clear ho hb hg hat)); try go_wp2_with (first | ((with_reducible refine gate_builtin (b := .append) (xs := #[.tmp 53, .tmp 55]) rfl ?_); (try (refine gate_guard (by rfl) ?_; dsimp only)); at_builtin; refine Kd.R_append Kd.string (w0 := w) w.heap.size rfl (.tmp 53) (.tmp 55) 39 9 (.string ⟨#[]⟩) 16 rfl Tryd.underlying39 info9 rfl (by decide) (by omega) u6 x6_1 x8_3 [.string x8_3] (fun _ => True) (fun _ => False) rfl rfl ?aP (fun _ hk => hk.elim) ?aF ?aO ?aB ?aS ?aL ?_; (case aP => exact rfl); (case aB => exact (by repeat (first | (with_reducible first | exact HB.out | apply below_alloc | apply pw_below_drewN | apply below_drew1) | exact HB.out))); (case aF => exact (fun _ _ => trivial)); (case aO => exact (by (with_reducible repeat (first | apply Kd.R_alloc | apply Kd.R_drewN | apply Kd.R_drew)); exact HO_6.out)); (case aS => exact (below_size (by repeat (first | (with_reducible first | exact HB.out | apply below_alloc | apply pw_below_drewN | apply below_drew1) | exact HB.out)))); (case aL => have := LMc24.out; omega); intro v485 w33 ho hb hg hat; rw [← Ny484.out] at ho; have n0_ := Aside0.mk (Kd.S_after (ok := (fun _ => True)) (by (with_reducible repeat (first | apply Kd.S_alloc | apply Kd.S_drewN | apply Kd.S_drew)); exact Kd.S_mono HO_5.out (fun _ hk => ⟨trivial, hk⟩)) hg hat); have n1_ := Aside0.mk (hb); have n2_ := Aside0.mk (ho); clear HO_5; clear HB; clear HO_6; have HO_5 := n0_; have HB := n1_; have HO486 := n2_; clear n0_ n1_ n2_; clear ho hb hg hat)))
                              go_roundg k3
                              case measure => have := HK1.out; have := HJ2.out; have := HK3.out; omega
                              case rel => exact ⟨(x5_1), (y484), (wrap64 (x7_1 + 1)), (by first | rfl | (simp only [i64_w]; done) | (simp; done) | (simp [*]; done)), H', ⟨by have := HK1.out; have := HJ2.out; have := HK3.out; omega⟩, ⟨by (with_reducible repeat (first | apply Kd.S_alloc | apply Kd.S_drewN | apply Kd.S_drew)); exact Kd.S_mono HO_5.out (fun _ hk => hk.2)⟩, ⟨by (with_reducible repeat (first | apply Kd.R_alloc | apply Kd.R_drewN | apply Kd.R_drew)); exact HO486.out⟩, ⟨by repeat (first | (with_reducible first | exact HB.out | apply below_alloc | apply pw_below_drewN | apply below_drew1) | exact HB.out)⟩⟩
                          · rw [if_neg c26] at H
                            exact absurd H (by simp)
                        · rw [if_neg c24] at H
                          exact absurd H (by simp)
              · rw [if_neg c7] at H
                exact absurd H (by simp)
            · rw [if_neg c6] at H
              exact absurd H (by simp)
          · replace c5 := Bool.eq_false_iff.mpr c5
            subst c5
            have H1 : (if (x6_1.length : Int) > 0 then (if x5_1.length < 5864062014805 then (glebelaw9_CsvrBack.j3 kj2 (x5_1 ++ [x6_1])) else (none)) else (glebelaw9_CsvrBack.j3 kj2 x5_1)) = some r := by rw [if_neg (show ¬ (false = true) by decide)] at H; exact H
            clear H
            have H := H1
            clear H1
            have HC34 := Aside0.mk H
            clear H
            obtain ⟨Ao35, co35, eo35⟩ := Kd.R_slice HO_6.out
            subst eo35
            go_upto_if 69 with (fail)
            repeat (go_quiet (fail); go_upto_if 69 with (fail))
            go_cut [5] (fun v5 wc => ∃ (kq : Nat) (x5_33 : List (List ByteArray)), Aside0 (glebelaw9_CsvrBack.j3 kq x5_33 = some r) ∧ Aside0 (kq ≤ kj2) ∧ Aside0 (Kd.S (Kd.slice 9 Kd.string) 39 wc w.heap.size (fun _ => True) v5 x5_33) ∧ Aside0 (Below w.heap.size w wc))
            case first =>
              have H := HC34.out
              clear HC34
              by_cases c36 : (x6_1.length : Int) > 0
              · rw [if_pos c36] at H
                have c36b0 : decide (0 < (x6_1.length : Int)) = true := decide_eq_true c36
                have c36b1 : decide (0 < x6_1.length) = true := decide_eq_true (by omega)
                clear c36
                (first | rw [c36b0] | (simp only [i64_w, i32_w]; rw [c36b0]) | rw [c36b1] | skip)
                by_cases c37 : x5_1.length < 5864062014805
                · rw [if_pos c37] at H
                  have LMc37 := Aside0.mk c37
                  clear c37
                  obtain ⟨y490, hy490⟩ : ∃ y_ : List (List ByteArray), y_ = (x5_1 ++ [x6_1]) := ⟨_, rfl⟩
                  replace H : (glebelaw9_CsvrBack.j3 kj2 y490) = some r := by first | (rw [hy490]; with_reducible exact H) | (have H2_ := (Option.bind_some _ _).symm.trans H; rw [hy490]; with_reducible exact H2_) | (have H2_ := (Option.bind_some _ _).symm.trans H; with_reducible exact H2_) | with_reducible exact H | (rw [hy490]; exact H) | exact H
                  have Ny490 := Aside0.mk hy490
                  clear hy490
                  have H' := Aside0.mk H
                  clear H
                  go_wp2_with (first | ((with_reducible refine gate_builtin (b := .append) (xs := #[.tmp 70, .tmp 72]) rfl ?_); (try (refine gate_guard (by rfl) ?_; dsimp only)); at_builtin; refine Kd.S_append (Kd.slice 9 Kd.string) (w0 := w) w.heap.size rfl (.tmp 70) (.tmp 72) 66 39 (.slice none 0 0) 24 rfl Tryd.underlying66 info39 rfl (by decide) (by omega) u5 x5_1 x6_1 [.slice Ao35 x6_1.length co35] (fun _ => True) (fun k_ => some k_ = (.slice Ao35 x6_1.length co35 : Value).ownBlock) rfl rfl ?aP (fun k_ hk_ => ((Kd.R_mono (ok' := fun k_ => ((fun _ => True)) k_ ∧ some k_ ≠ (u5 : Value).ownBlock) (Kd.R_apart' (HO_6.out) (Kd.S_typed HO_5.out) (by decide)) (fun k_ hk => ⟨trivial, hk.2⟩))).1 k_ hk_.symm) ?aF ?aO ?aB ?aS ?aL ?_; (case aP => exact Kd.M_row (Kd.R_mono (Kd.R_tight rfl (Kd.R_mono (ok' := fun k_ => ((fun _ => True)) k_ ∧ some k_ ≠ (u5 : Value).ownBlock) (Kd.R_apart' (HO_6.out) (Kd.S_typed HO_5.out) (by decide)) (fun k_ hk => ⟨trivial, hk.2⟩))) (fun _ h_ => h_))); (case aB => exact (by repeat (first | (with_reducible first | exact HB.out | apply below_alloc | apply pw_below_drewN | apply below_drew1) | exact HB.out))); (case aF => exact (fun _ _ => trivial)); (case aO => exact (by (with_reducible repeat (first | apply Kd.S_alloc | apply Kd.S_drewN | apply Kd.S_drew)); exact Kd.S_mono HO_5.out (fun k_ hk => ⟨trivial, fun e_ => hk e_⟩))); (case aS => exact (below_size (by repeat (first | (with_reducible first | exact HB.out | apply below_alloc | apply pw_below_drewN | apply below_drew1) | exact HB.out)))); (case aL => have := LMc37.out; omega); intro v491 w38 ho hb hg hat; rw [← Ny490.out] at ho; have n0_ := Aside0.mk (hb); have n1_ := Aside0.mk (ho); clear HB; clear HO_5; clear HO_6; have HB := n0_; have HO492 := n1_; clear n0_ n1_; clear ho hb hg hat))
                  repeat (go_quiet (first | ((with_reducible refine gate_builtin (b := .append) (xs := #[.tmp 70, .tmp 72]) rfl ?_); (try (refine gate_guard (by rfl) ?_; dsimp only)); at_builtin; refine Kd.S_append (Kd.slice 9 Kd.string) (w0 := w) w.heap.size rfl (.tmp 70) (.tmp 72) 66 39 (.slice none 0 0) 24 rfl Tryd.underlying66 info39 rfl (by decide) (by omega) u5 x5_1 x6_1 [.slice Ao35 x6_1.length co35] (fun _ => True) (fun k_ => some k_ = (.slice Ao35 x6_1.length co35 : Value).ownBlock) rfl rfl ?aP (fun k_ hk_ => ((Kd.R_mono (ok' := fun k_ => ((fun _ => True)) k_ ∧ some k_ ≠ (u5 : Value).ownBlock) (Kd.R_apart' (HO_6.out) (Kd.S_typed HO_5.out) (by decide)) (fun k_ hk => ⟨trivial, hk.2⟩))).1 k_ hk_.symm) ?aF ?aO ?aB ?aS ?aL ?_; (case aP => exact Kd.M_row (Kd.R_mono (Kd.R_tight rfl (Kd.R_mono (ok' := fun k_ => ((fun _ => True)) k_ ∧ some k_ ≠ (u5 : Value).ownBlock) (Kd.R_apart' (HO_6.out) (Kd.S_typed HO_5.out) (by decide)) (fun k_ hk => ⟨trivial, hk.2⟩))) (fun _ h_ => h_))); (case aB => exact (by repeat (first | (with_reducible first | exact HB.out | apply below_alloc | apply pw_below_drewN | apply below_drew1) | exact HB.out))); (case aF => exact (fun _ _ => trivial)); (case aO => exact (by (with_reducible repeat (first | apply Kd.S_alloc | apply Kd.S_drewN | apply Kd.S_drew)); exact Kd.S_mono HO_5.out (fun k_ hk => ⟨trivial, fun e_ => hk e_⟩))); (case aS => exact (below_size (by repeat (first | (with_reducible first | exact HB.out | apply below_alloc | apply pw_below_drewN | apply below_drew1) | exact HB.out)))); (case aL => have := LMc37.out; omega); intro v491 w38 ho hb hg hat; rw [← Ny490.out] at ho; have n0_ := Aside0.mk (hb); have n1_ := Aside0.mk (ho); clear HB; clear HO_5; clear HO_6; have HB := n0_; have HO492 := n1_; clear n0_ n1_; clear ho hb hg hat)); try go_wp2_with (first | ((with_reducible refine gate_builtin (b := .append) (xs := #[.tmp 70, .tmp 72]) rfl ?_); (try (refine gate_guard (by rfl) ?_; dsimp only)); at_builtin; refine Kd.S_append (Kd.slice 9 Kd.string) (w0 := w) w.heap.size rfl (.tmp 70) (.tmp 72) 66 39 (.slice none 0 0) 24 rfl Tryd.underlying66 info39 rfl (by decide) (by omega) u5 x5_1 x6_1 [.slice Ao35 x6_1.length co35] (fun _ => True) (fun k_ => some k_ = (.slice Ao35 x6_1.length co35 : Value).ownBlock) rfl rfl ?aP (fun k_ hk_ => ((Kd.R_mono (ok' := fun k_ => ((fun _ => True)) k_ ∧ some k_ ≠ (u5 : Value).ownBlock) (Kd.R_apart' (HO_6.out) (Kd.S_typed HO_5.out) (by decide)) (fun k_ hk => ⟨trivial, hk.2⟩))).1 k_ hk_.symm) ?aF ?aO ?aB ?aS ?aL ?_; (case aP => exact Kd.M_row (Kd.R_mono (Kd.R_tight rfl (Kd.R_mono (ok' := fun k_ => ((fun _ => True)) k_ ∧ some k_ ≠ (u5 : Value).ownBlock) (Kd.R_apart' (HO_6.out) (Kd.S_typed HO_5.out) (by decide)) (fun k_ hk => ⟨trivial, hk.2⟩))) (fun _ h_ => h_))); (case aB => exact (by repeat (first | (with_reducible first | exact HB.out | apply below_alloc | apply pw_below_drewN | apply below_drew1) | exact HB.out))); (case aF => exact (fun _ _ => trivial)); (case aO => exact (by (with_reducible repeat (first | apply Kd.S_alloc | apply Kd.S_drewN | apply Kd.S_drew)); exact Kd.S_mono HO_5.out (fun k_ hk => ⟨trivial, fun e_ => hk e_⟩))); (case aS => exact (below_size (by repeat (first | (with_reducible first | exact HB.out | apply below_alloc | apply pw_below_drewN | apply below_drew1) | exact HB.out)))); (case aL => have := LMc37.out; omega); intro v491 w38 ho hb hg hat; rw [← Ny490.out] at ho; have n0_ := Aside0.mk (hb); have n1_ := Aside0.mk (ho); clear HB; clear HO_5; clear HO_6; have HB := n0_; have HO492 := n1_; clear n0_ n1_; clear ho hb hg hat)))
                  go_meet
                  case rel => exact ⟨_, (y490), H', ⟨by have := HK1.out; have := HJ2.out; first | omega | exact Nat.le_refl _⟩, ⟨by (with_reducible repeat (first | apply Kd.S_alloc | apply Kd.S_drewN | apply Kd.S_drew)); exact HO492.out⟩, ⟨by repeat (first | (with_reducible first | exact HB.out | apply below_alloc | apply pw_below_drewN | apply below_drew1) | exact HB.out)⟩⟩
                · rw [if_neg c37] at H
                  exact absurd H (by simp)
              · rw [if_neg c36] at H
                have c36b0 : decide (0 < (x6_1.length : Int)) = false := decide_eq_false c36
                have c36b1 : decide (0 < x6_1.length) = false := decide_eq_false (by omega)
                clear c36
                (first | rw [c36b0] | (simp only [i64_w, i32_w]; rw [c36b0]) | rw [c36b1] | skip)
                have H' := Aside0.mk H
                clear H
                go_wp2
                repeat (go_quiet (fail); try go_wp2)
                go_meet
                case rel => exact ⟨_, (x5_1), H', ⟨by have := HK1.out; have := HJ2.out; first | omega | exact Nat.le_refl _⟩, ⟨by (with_reducible repeat (first | apply Kd.S_alloc | apply Kd.S_drewN | apply Kd.S_drew)); exact Kd.S_mono HO_5.out (fun _ hk => trivial)⟩, ⟨by repeat (first | (with_reducible first | exact HB.out | apply below_alloc | apply pw_below_drewN | apply below_drew1) | exact HB.out)⟩⟩
            case rest =>
              clear HC34
              try clear c1
              try clear c2
              try clear p2
              try clear hcv2
              try clear c3
              try clear c4
              try clear c4b0
              try clear p4
              try clear q4
              try clear hx4
              try clear c5
              try clear c6
              try clear c6b0
              try clear p6
              try clear c7
              try clear c7b0
              try clear c8
              try clear c8b0
              try clear c8b1
              try clear c11
              try clear c11b0
              try clear c12
              try clear c12b0
              try clear c13
              try clear c13b0
              try clear c14
              try clear c15
              try clear c15b0
              try clear c16
              try clear c16b0
              try clear c17
              try clear c17b0
              try clear c17b1
              try clear c17b2
              try clear hcv23
              try clear c24
              try clear c26
              try clear c26b0
              try clear c26b1
              try clear c28
              try clear c28b0
              try clear c28b1
              try clear c29
              try clear c36
              try clear c36b0
              try clear c36b1
              try clear c37
              try clear hx473_0
              try clear hx475_0
              try clear hx476_0
              try clear hx480_0
              try clear p2
              try clear p4
              try clear p473
              try clear p475
              try clear p476
              try clear p480
              try clear q4
              try clear q473
              try clear q475
              try clear q476
              try clear q480
              obtain ⟨kq, x5_33, HA, HJ33, HO_5, HB⟩ := hcut
              cases kq with
              | zero => exact absurd HA.out (by simp [glebelaw9_CsvrBack.j3])
              | succ kj33 =>
                have H := HA.out
                clear HA
                simp only [glebelaw9_CsvrBack.j3] at H
                replace H := Option.bind_eq_some_iff.mp H
                obtain ⟨t493, A390, H⟩ := H
                replace H : ((csvr_Parse.f kj33 t493).bind fun bt496 => (if bt496.2.1 = 0 then (glebelaw9_CsvrBack.j4 kj33 x5_33 bt496.1 ((bt496.1.length : Int) != (x5_33.length : Int))) else (glebelaw9_CsvrBack.j4 kj33 x5_33 bt496.1 true))) = some r := H
                have A39 := Aside0.mk A390
                clear A390
                replace H := Option.bind_eq_some_iff.mp H
                obtain ⟨⟨t496, t499, t500⟩, A400, H⟩ := H
                replace H : (if t499 = 0 then (glebelaw9_CsvrBack.j4 kj33 x5_33 t496 ((t496.length : Int) != (x5_33.length : Int))) else (glebelaw9_CsvrBack.j4 kj33 x5_33 t496 true)) = some r := H
                have A40 := Aside0.mk A400
                clear A400
                have HC41 := Aside0.mk H
                clear H
                obtain ⟨Ao42, co42, eo42⟩ := Kd.S_slice HO_5.out
                subst eo42
                go_upto_region 20 with (first | (go_at_call 38; (with_reducible refine (csvr_Print.calls kj33 _ _ x5_33 t493 _ ?side1 ?side2 ?side3 A39.out).mono ?_); (case side1 => repeat (first | exact (Kd.S_reads' HO_5.out).2.2 | (with_reducible refine Kd.C_alloc ?_ _) | (with_reducible refine Kd.C_drewN ?_ _) | (with_reducible refine Kd.C_drew ?_))); (case side2 => exact (Kd.S_reads' HO_5.out).2.1); (case side3 => exact XM.Tabs.below hMax (by repeat (first | (with_reducible first | exact HB.out | apply below_alloc | apply pw_below_drewN | apply below_drew1) | exact HB.out))); rintro e w43 ⟨v494, rfl, ho0, hb⟩; have n0_ := Aside0.mk (Kd.S_below (by (with_reducible repeat (first | apply Kd.S_alloc | apply Kd.S_drewN | apply Kd.S_drew)); exact HO_5.out) hb); have n1_ := Aside0.mk (Kd.V_lower (Kd.V_mono (ok' := fun k_ => some k_ ≠ (.slice Ao42 x5_33.length co42 : Value).ownBlock) ho0 (fun k_ hk_ => (Kd.fresh' (Kd.S_lt (by (with_reducible repeat (first | apply Kd.S_alloc | apply Kd.S_drewN | apply Kd.S_drew)); exact HO_5.out)) k_ hk_))) (below_size (by repeat (first | (with_reducible first | exact HB.out | apply below_alloc | apply pw_below_drewN | apply below_drew1) | exact HB.out)))); have n2_ := Aside0.mk (below_step (by repeat (first | (with_reducible first | exact HB.out | apply below_alloc | apply pw_below_drewN | apply below_drew1) | exact HB.out)) hb); clear HO_5; clear HB; have HO_5 := n0_; have HO495 := n1_; have HB := n2_; clear n0_ n1_ n2_; (try clear hb); (try clear hb2); (try clear hk); (try clear hi); (try clear ho0); obtain ⟨Ao44, co44, eo44⟩ := Kd.V_slice HO495.out; subst eo44) | (go_at_call 33; (with_reducible refine (csvr_Parse.calls kj33 _ _ t493 t496 t499 t500 _ ?side1 ?side2 A40.out).mono ?_); (case side1 => repeat (first | exact (Kd.V_reads' HO495.out).2.2 | (with_reducible refine Kd.C_alloc ?_ _) | (with_reducible refine Kd.C_drewN ?_ _) | (with_reducible refine Kd.C_drew ?_))); (case side2 => exact (Kd.V_reads' HO495.out).2.1); rintro e w45 ⟨v497, rfl, ho0, hb⟩; have n0_ := Aside0.mk (Kd.S_below (by (with_reducible repeat (first | apply Kd.S_alloc | apply Kd.S_drewN | apply Kd.S_drew)); exact HO_5.out) hb); have n1_ := Aside0.mk (Kd.V_elder' (by (with_reducible repeat (first | apply Kd.V_alloc | apply Kd.V_drewN | apply Kd.V_drew)); exact HO495.out) (Kd.S_base ho0) hb); have n2_ := Aside0.mk (Kd.S_lower ho0 (below_size (by repeat (first | (with_reducible first | exact HB.out | apply below_alloc | apply pw_below_drewN | apply below_drew1) | exact HB.out)))); have n3_ := Aside0.mk (below_step (by repeat (first | (with_reducible first | exact HB.out | apply below_alloc | apply pw_below_drewN | apply below_drew1) | exact HB.out)) hb); clear HO_5; clear HO495; clear HB; have HO_5 := n0_; have HO495 := n1_; have HO498 := n2_; have HB := n3_; clear n0_ n1_ n2_ n3_; (try clear hb); (try clear hb2); (try clear hk); (try clear hi); (try clear ho0)) | ((with_reducible refine gate_dst (N := 12) rfl ?_); (try (refine gate_guard (by rfl) ?_; dsimp only)); refine box_event ?hg (N := 12) ?hd (cs := #[.int .i64 0, .int .i64 0]) (t := 54) ?hr ?_; (case hd => rfl); (case hg => rfl); (case hr => first | (go_simp; done) | (go_simp; rfl)); intro gb501 hg w46 hbox hb; have n0_ := Aside0.mk (Kd.S_below (by (with_reducible repeat (first | apply Kd.S_alloc | apply Kd.S_drewN | apply Kd.S_drew)); exact HO_5.out) hb); have n1_ := Aside0.mk (Kd.V_below (Kd.V_elderB (by (with_reducible repeat (first | apply Kd.V_alloc | apply Kd.V_drewN | apply Kd.V_drew)); exact HO495.out) gb501 (Nat.le_of_eq hg.symm)) hb); have n2_ := Aside0.mk (Kd.S_below (by (with_reducible repeat (first | apply Kd.S_alloc | apply Kd.S_drewN | apply Kd.S_drew)); exact HO498.out) hb); have n3_ := Aside0.mk (below_step (by repeat (first | (with_reducible first | exact HB.out | apply below_alloc | apply pw_below_drewN | apply below_drew1) | exact HB.out)) hb); have n4_ := Aside0.mk (hbox); have n5_ := Aside0.mk ((by rw [hg]; exact (below_size (by repeat (first | (with_reducible first | exact HB.out | apply below_alloc | apply pw_below_drewN | apply below_drew1) | exact HB.out))) : w.heap.size ≤ gb501)); have n6_ := Aside0.mk ((by rw [hg]; exact (below_size (by repeat (first | (with_reducible first | exact HB.out | apply below_alloc | apply pw_below_drewN | apply below_drew1) | exact HB.out))) : w.heap.size ≤ gb501)); clear HO_5; clear HO495; clear HO498; clear HB; have HO_5 := n0_; have HO495 := n1_; have HO498 := n2_; have HB := n3_; have BK501 := n4_; have GW501 := n5_; have GE501 := n6_; clear n0_ n1_ n2_ n3_ n4_ n5_ n6_; clear hb hbox hg; have hcz47_0 : w46.cell? ⟨gb501, 0, none⟩ = some (.int .i64 0) := (blk_cell BK501.out 0).trans rfl; have hcz47_1 : w46.cell? ⟨gb501, 1, none⟩ = some (.int .i64 0) := (blk_cell BK501.out 1).trans rfl; have hfz47_0 := blk_frozen BK501.out 0; have hfz47_1 := blk_frozen BK501.out 1))
                repeat (go_quiet (first | (go_at_call 38; (with_reducible refine (csvr_Print.calls kj33 _ _ x5_33 t493 _ ?side1 ?side2 ?side3 A39.out).mono ?_); (case side1 => repeat (first | exact (Kd.S_reads' HO_5.out).2.2 | (with_reducible refine Kd.C_alloc ?_ _) | (with_reducible refine Kd.C_drewN ?_ _) | (with_reducible refine Kd.C_drew ?_))); (case side2 => exact (Kd.S_reads' HO_5.out).2.1); (case side3 => exact XM.Tabs.below hMax (by repeat (first | (with_reducible first | exact HB.out | apply below_alloc | apply pw_below_drewN | apply below_drew1) | exact HB.out))); rintro e w43 ⟨v494, rfl, ho0, hb⟩; have n0_ := Aside0.mk (Kd.S_below (by (with_reducible repeat (first | apply Kd.S_alloc | apply Kd.S_drewN | apply Kd.S_drew)); exact HO_5.out) hb); have n1_ := Aside0.mk (Kd.V_lower (Kd.V_mono (ok' := fun k_ => some k_ ≠ (.slice Ao42 x5_33.length co42 : Value).ownBlock) ho0 (fun k_ hk_ => (Kd.fresh' (Kd.S_lt (by (with_reducible repeat (first | apply Kd.S_alloc | apply Kd.S_drewN | apply Kd.S_drew)); exact HO_5.out)) k_ hk_))) (below_size (by repeat (first | (with_reducible first | exact HB.out | apply below_alloc | apply pw_below_drewN | apply below_drew1) | exact HB.out)))); have n2_ := Aside0.mk (below_step (by repeat (first | (with_reducible first | exact HB.out | apply below_alloc | apply pw_below_drewN | apply below_drew1) | exact HB.out)) hb); clear HO_5; clear HB; have HO_5 := n0_; have HO495 := n1_; have HB := n2_; clear n0_ n1_ n2_; (try clear hb); (try clear hb2); (try clear hk); (try clear hi); (try clear ho0); obtain ⟨Ao44, co44, eo44⟩ := Kd.V_slice HO495.out; subst eo44) | (go_at_call 33; (with_reducible refine (csvr_Parse.calls kj33 _ _ t493 t496 t499 t500 _ ?side1 ?side2 A40.out).mono ?_); (case side1 => repeat (first | exact (Kd.V_reads' HO495.out).2.2 | (with_reducible refine Kd.C_alloc ?_ _) | (with_reducible refine Kd.C_drewN ?_ _) | (with_reducible refine Kd.C_drew ?_))); (case side2 => exact (Kd.V_reads' HO495.out).2.1); rintro e w45 ⟨v497, rfl, ho0, hb⟩; have n0_ := Aside0.mk (Kd.S_below (by (with_reducible repeat (first | apply Kd.S_alloc | apply Kd.S_drewN | apply Kd.S_drew)); exact HO_5.out) hb); have n1_ := Aside0.mk (Kd.V_elder' (by (with_reducible repeat (first | apply Kd.V_alloc | apply Kd.V_drewN | apply Kd.V_drew)); exact HO495.out) (Kd.S_base ho0) hb); have n2_ := Aside0.mk (Kd.S_lower ho0 (below_size (by repeat (first | (with_reducible first | exact HB.out | apply below_alloc | apply pw_below_drewN | apply below_drew1) | exact HB.out)))); have n3_ := Aside0.mk (below_step (by repeat (first | (with_reducible first | exact HB.out | apply below_alloc | apply pw_below_drewN | apply below_drew1) | exact HB.out)) hb); clear HO_5; clear HO495; clear HB; have HO_5 := n0_; have HO495 := n1_; have HO498 := n2_; have HB := n3_; clear n0_ n1_ n2_ n3_; (try clear hb); (try clear hb2); (try clear hk); (try clear hi); (try clear ho0)) | ((with_reducible refine gate_dst (N := 12) rfl ?_); (try (refine gate_guard (by rfl) ?_; dsimp only)); refine box_event ?hg (N := 12) ?hd (cs := #[.int .i64 0, .int .i64 0]) (t := 54) ?hr ?_; (case hd => rfl); (case hg => rfl); (case hr => first | (go_simp; done) | (go_simp; rfl)); intro gb501 hg w46 hbox hb; have n0_ := Aside0.mk (Kd.S_below (by (with_reducible repeat (first | apply Kd.S_alloc | apply Kd.S_drewN | apply Kd.S_drew)); exact HO_5.out) hb); have n1_ := Aside0.mk (Kd.V_below (Kd.V_elderB (by (with_reducible repeat (first | apply Kd.V_alloc | apply Kd.V_drewN | apply Kd.V_drew)); exact HO495.out) gb501 (Nat.le_of_eq hg.symm)) hb); have n2_ := Aside0.mk (Kd.S_below (by (with_reducible repeat (first | apply Kd.S_alloc | apply Kd.S_drewN | apply Kd.S_drew)); exact HO498.out) hb); have n3_ := Aside0.mk (below_step (by repeat (first | (with_reducible first | exact HB.out | apply below_alloc | apply pw_below_drewN | apply below_drew1) | exact HB.out)) hb); have n4_ := Aside0.mk (hbox); have n5_ := Aside0.mk ((by rw [hg]; exact (below_size (by repeat (first | (with_reducible first | exact HB.out | apply below_alloc | apply pw_below_drewN | apply below_drew1) | exact HB.out))) : w.heap.size ≤ gb501)); have n6_ := Aside0.mk ((by rw [hg]; exact (below_size (by repeat (first | (with_reducible first | exact HB.out | apply below_alloc | apply pw_below_drewN | apply below_drew1) | exact HB.out))) : w.heap.size ≤ gb501)); clear HO_5; clear HO495; clear HO498; clear HB; have HO_5 := n0_; have HO495 := n1_; have HO498 := n2_; have HB := n3_; have BK501 := n4_; have GW501 := n5_; have GE501 := n6_; clear n0_ n1_ n2_ n3_ n4_ n5_ n6_; clear hb hbox hg; have hcz47_0 : w46.cell? ⟨gb501, 0, none⟩ = some (.int .i64 0) := (blk_cell BK501.out 0).trans rfl; have hcz47_1 : w46.cell? ⟨gb501, 1, none⟩ = some (.int .i64 0) := (blk_cell BK501.out 1).trans rfl; have hfz47_0 := blk_frozen BK501.out 0; have hfz47_1 := blk_frozen BK501.out 1)); go_upto_region 20 with (first | (go_at_call 38; (with_reducible refine (csvr_Print.calls kj33 _ _ x5_33 t493 _ ?side1 ?side2 ?side3 A39.out).mono ?_); (case side1 => repeat (first | exact (Kd.S_reads' HO_5.out).2.2 | (with_reducible refine Kd.C_alloc ?_ _) | (with_reducible refine Kd.C_drewN ?_ _) | (with_reducible refine Kd.C_drew ?_))); (case side2 => exact (Kd.S_reads' HO_5.out).2.1); (case side3 => exact XM.Tabs.below hMax (by repeat (first | (with_reducible first | exact HB.out | apply below_alloc | apply pw_below_drewN | apply below_drew1) | exact HB.out))); rintro e w43 ⟨v494, rfl, ho0, hb⟩; have n0_ := Aside0.mk (Kd.S_below (by (with_reducible repeat (first | apply Kd.S_alloc | apply Kd.S_drewN | apply Kd.S_drew)); exact HO_5.out) hb); have n1_ := Aside0.mk (Kd.V_lower (Kd.V_mono (ok' := fun k_ => some k_ ≠ (.slice Ao42 x5_33.length co42 : Value).ownBlock) ho0 (fun k_ hk_ => (Kd.fresh' (Kd.S_lt (by (with_reducible repeat (first | apply Kd.S_alloc | apply Kd.S_drewN | apply Kd.S_drew)); exact HO_5.out)) k_ hk_))) (below_size (by repeat (first | (with_reducible first | exact HB.out | apply below_alloc | apply pw_below_drewN | apply below_drew1) | exact HB.out)))); have n2_ := Aside0.mk (below_step (by repeat (first | (with_reducible first | exact HB.out | apply below_alloc | apply pw_below_drewN | apply below_drew1) | exact HB.out)) hb); clear HO_5; clear HB; have HO_5 := n0_; have HO495 := n1_; have HB := n2_; clear n0_ n1_ n2_; (try clear hb); (try clear hb2); (try clear hk); (try clear hi); (try clear ho0); obtain ⟨Ao44, co44, eo44⟩ := Kd.V_slice HO495.out; subst eo44) | (go_at_call 33; (with_reducible refine (csvr_Parse.calls kj33 _ _ t493 t496 t499 t500 _ ?side1 ?side2 A40.out).mono ?_); (case side1 => repeat (first | exact (Kd.V_reads' HO495.out).2.2 | (with_reducible refine Kd.C_alloc ?_ _) | (with_reducible refine Kd.C_drewN ?_ _) | (with_reducible refine Kd.C_drew ?_))); (case side2 => exact (Kd.V_reads' HO495.out).2.1); rintro e w45 ⟨v497, rfl, ho0, hb⟩; have n0_ := Aside0.mk (Kd.S_below (by (with_reducible repeat (first | apply Kd.S_alloc | apply Kd.S_drewN | apply Kd.S_drew)); exact HO_5.out) hb); have n1_ := Aside0.mk (Kd.V_elder' (by (with_reducible repeat (first | apply Kd.V_alloc | apply Kd.V_drewN | apply Kd.V_drew)); exact HO495.out) (Kd.S_base ho0) hb); have n2_ := Aside0.mk (Kd.S_lower ho0 (below_size (by repeat (first | (with_reducible first | exact HB.out | apply below_alloc | apply pw_below_drewN | apply below_drew1) | exact HB.out)))); have n3_ := Aside0.mk (below_step (by repeat (first | (with_reducible first | exact HB.out | apply below_alloc | apply pw_below_drewN | apply below_drew1) | exact HB.out)) hb); clear HO_5; clear HO495; clear HB; have HO_5 := n0_; have HO495 := n1_; have HO498 := n2_; have HB := n3_; clear n0_ n1_ n2_ n3_; (try clear hb); (try clear hb2); (try clear hk); (try clear hi); (try clear ho0)) | ((with_reducible refine gate_dst (N := 12) rfl ?_); (try (refine gate_guard (by rfl) ?_; dsimp only)); refine box_event ?hg (N := 12) ?hd (cs := #[.int .i64 0, .int .i64 0]) (t := 54) ?hr ?_; (case hd => rfl); (case hg => rfl); (case hr => first | (go_simp; done) | (go_simp; rfl)); intro gb501 hg w46 hbox hb; have n0_ := Aside0.mk (Kd.S_below (by (with_reducible repeat (first | apply Kd.S_alloc | apply Kd.S_drewN | apply Kd.S_drew)); exact HO_5.out) hb); have n1_ := Aside0.mk (Kd.V_below (Kd.V_elderB (by (with_reducible repeat (first | apply Kd.V_alloc | apply Kd.V_drewN | apply Kd.V_drew)); exact HO495.out) gb501 (Nat.le_of_eq hg.symm)) hb); have n2_ := Aside0.mk (Kd.S_below (by (with_reducible repeat (first | apply Kd.S_alloc | apply Kd.S_drewN | apply Kd.S_drew)); exact HO498.out) hb); have n3_ := Aside0.mk (below_step (by repeat (first | (with_reducible first | exact HB.out | apply below_alloc | apply pw_below_drewN | apply below_drew1) | exact HB.out)) hb); have n4_ := Aside0.mk (hbox); have n5_ := Aside0.mk ((by rw [hg]; exact (below_size (by repeat (first | (with_reducible first | exact HB.out | apply below_alloc | apply pw_below_drewN | apply below_drew1) | exact HB.out))) : w.heap.size ≤ gb501)); have n6_ := Aside0.mk ((by rw [hg]; exact (below_size (by repeat (first | (with_reducible first | exact HB.out | apply below_alloc | apply pw_below_drewN | apply below_drew1) | exact HB.out))) : w.heap.size ≤ gb501)); clear HO_5; clear HO495; clear HO498; clear HB; have HO_5 := n0_; have HO495 := n1_; have HO498 := n2_; have HB := n3_; have BK501 := n4_; have GW501 := n5_; have GE501 := n6_; clear n0_ n1_ n2_ n3_ n4_ n5_ n6_; clear hb hbox hg; have hcz47_0 : w46.cell? ⟨gb501, 0, none⟩ = some (.int .i64 0) := (blk_cell BK501.out 0).trans rfl; have hcz47_1 : w46.cell? ⟨gb501, 1, none⟩ = some (.int .i64 0) := (blk_cell BK501.out 1).trans rfl; have hfz47_0 := blk_frozen BK501.out 0; have hfz47_1 := blk_frozen BK501.out 1)))
                (try simp only [Act.put, List.setIfInBounds_toArray, List.set_cons_zero, List.set_cons_succ])
                go_cut [89] (fun v89 wc => ∃ (kq : Nat) (x89_40 : Bool), v89 = .bool x89_40 ∧ Aside0 (glebelaw9_CsvrBack.j4 kq x5_33 t496 x89_40 = some r) ∧ Aside0 (kq ≤ kj33) ∧ Aside0 (Kd.S (Kd.slice 9 Kd.string) 39 wc w.heap.size (fun _ => True) (.slice Ao42 x5_33.length co42) x5_33) ∧ Aside0 (Kd.S (Kd.slice 59 k59) 57 wc w.heap.size (fun _ => True) v497 t496) ∧ Aside0 (wc.heap[gb501]? = some (.cells #[.int .i64 t499, .int .i64 t500] 54 (0, 0))) ∧ Aside0 (Below w.heap.size w wc))
                case first =>
                  have H := HC41.out
                  clear HC41
                  by_cases c48 : t499 = 0
                  · rw [if_pos c48] at H
                    have c48b0 : (t499 == 0) = true := beq_iff_eq.mpr c48
                    have c48b1 : (t499 != 0) = false := bne_eq_false_iff_eq.mpr c48
                    clear c48
                    (first | rw [c48b0] | (simp only [i64_w, i32_w]; rw [c48b0]) | rw [c48b1] | skip)
                    have H' := Aside0.mk H
                    clear H
                    have hcz49_0 : w46.cell? ⟨gb501, 0, none⟩ = some (.int .i64 0) := (blk_cell BK501.out 0).trans rfl
                    have hcz49_1 : w46.cell? ⟨gb501, 1, none⟩ = some (.int .i64 0) := (blk_cell BK501.out 1).trans rfl
                    have hfz49_0 := blk_frozen BK501.out 0
                    have hfz49_1 := blk_frozen BK501.out 1
                    obtain ⟨Ao50, co50, eo50⟩ := Kd.S_slice HO498.out
                    subst eo50
                    go_wp2
                    repeat (go_quiet (fail); try go_wp2)
                    go_meet
                    case rel => exact ⟨_, (((t496.length : Int) != (x5_33.length : Int))), (by first | rfl | (simp only [i64_w]; done) | (simp; done) | (simp [*]; done)), H', ⟨by have := HK1.out; have := HJ2.out; have := HJ33.out; first | omega | exact Nat.le_refl _⟩, ⟨by (with_reducible repeat (first | apply Kd.S_alloc | apply Kd.S_drewN | apply Kd.S_drew)); exact Kd.S_mono (Kd.S_far (p := ⟨gb501, 1, none⟩) (Kd.S_far (p := ⟨gb501, 0, none⟩) (Kd.S_types HO_5.out BK501.out (by decide)) (fun _ hk => hk.2) (.int .i64 t499)) (fun _ hk => hk.2) (.int .i64 t500)) (fun _ hk => trivial)⟩, ⟨by (with_reducible repeat (first | apply Kd.S_alloc | apply Kd.S_drewN | apply Kd.S_drew)); exact Kd.S_mono (Kd.S_far (p := ⟨gb501, 1, none⟩) (Kd.S_far (p := ⟨gb501, 0, none⟩) (Kd.S_types HO498.out BK501.out (by decide)) (fun _ hk => hk.2) (.int .i64 t499)) (fun _ hk => hk.2) (.int .i64 t500)) (fun _ hk => trivial)⟩, ⟨by (with_reducible repeat (first | refine blk_drewN ?_ _ | refine blk_drew ?_ | refine blk_alloc ?_ _)); refine blk_put (cs := #[.int .i64 t499, .int .i64 0]) ?_ 1 _ rfl; (with_reducible repeat (first | refine blk_drewN ?_ _ | refine blk_drew ?_ | refine blk_alloc ?_ _)); refine blk_put (cs := #[.int .i64 0, .int .i64 0]) ?_ 0 _ rfl; (with_reducible repeat (first | refine blk_drewN ?_ _ | refine blk_drew ?_ | refine blk_alloc ?_ _)); exact BK501.out⟩, ⟨by repeat (first | (with_reducible first | exact HB.out | apply below_alloc | apply pw_below_drewN | apply below_drew1 | refine below_set ?_ GE501.out) | exact HB.out)⟩⟩
                  · rw [if_neg c48] at H
                    have c48b0 : (t499 == 0) = false := beq_eq_false_iff_ne.mpr c48
                    have c48b1 : (t499 != 0) = true := bne_iff_ne.mpr c48
                    (first | rw [c48b0] | (simp only [i64_w, i32_w]; rw [c48b0]) | rw [c48b1] | skip)
                    have H' := Aside0.mk H
                    clear H
                    have hcz51_0 : w46.cell? ⟨gb501, 0, none⟩ = some (.int .i64 0) := (blk_cell BK501.out 0).trans rfl
                    have hcz51_1 : w46.cell? ⟨gb501, 1, none⟩ = some (.int .i64 0) := (blk_cell BK501.out 1).trans rfl
                    have hfz51_0 := blk_frozen BK501.out 0
                    have hfz51_1 := blk_frozen BK501.out 1
                    go_wp2
                    repeat (go_quiet (fail); try go_wp2)
                    go_meet
                    case rel => exact ⟨_, (true), (by first | rfl | (simp only [i64_w]; done) | (simp; done) | (simp [*]; done)), H', ⟨by have := HK1.out; have := HJ2.out; have := HJ33.out; first | omega | exact Nat.le_refl _⟩, ⟨by (with_reducible repeat (first | apply Kd.S_alloc | apply Kd.S_drewN | apply Kd.S_drew)); exact Kd.S_mono (Kd.S_far (p := ⟨gb501, 1, none⟩) (Kd.S_far (p := ⟨gb501, 0, none⟩) (Kd.S_types HO_5.out BK501.out (by decide)) (fun _ hk => hk.2) (.int .i64 t499)) (fun _ hk => hk.2) (.int .i64 t500)) (fun _ hk => trivial)⟩, ⟨by (with_reducible repeat (first | apply Kd.S_alloc | apply Kd.S_drewN | apply Kd.S_drew)); exact Kd.S_mono (Kd.S_far (p := ⟨gb501, 1, none⟩) (Kd.S_far (p := ⟨gb501, 0, none⟩) (Kd.S_types HO498.out BK501.out (by decide)) (fun _ hk => hk.2) (.int .i64 t499)) (fun _ hk => hk.2) (.int .i64 t500)) (fun _ hk => trivial)⟩, ⟨by (with_reducible repeat (first | refine blk_drewN ?_ _ | refine blk_drew ?_ | refine blk_alloc ?_ _)); refine blk_put (cs := #[.int .i64 t499, .int .i64 0]) ?_ 1 _ rfl; (with_reducible repeat (first | refine blk_drewN ?_ _ | refine blk_drew ?_ | refine blk_alloc ?_ _)); refine blk_put (cs := #[.int .i64 0, .int .i64 0]) ?_ 0 _ rfl; (with_reducible repeat (first | refine blk_drewN ?_ _ | refine blk_drew ?_ | refine blk_alloc ?_ _)); exact BK501.out⟩, ⟨by repeat (first | (with_reducible first | exact HB.out | apply below_alloc | apply pw_below_drewN | apply below_drew1 | refine below_set ?_ GE501.out) | exact HB.out)⟩⟩
                case rest =>
                  clear HC41
                  try clear c1
                  try clear c2
                  try clear p2
                  try clear hcv2
                  try clear c3
                  try clear c4
                  try clear c4b0
                  try clear p4
                  try clear q4
                  try clear hx4
                  try clear c5
                  try clear c6
                  try clear c6b0
                  try clear p6
                  try clear c7
                  try clear c7b0
                  try clear c8
                  try clear c8b0
                  try clear c8b1
                  try clear c11
                  try clear c11b0
                  try clear c12
                  try clear c12b0
                  try clear c13
                  try clear c13b0
                  try clear c14
                  try clear c15
                  try clear c15b0
                  try clear c16
                  try clear c16b0
                  try clear c17
                  try clear c17b0
                  try clear c17b1
                  try clear c17b2
                  try clear hcv23
                  try clear c24
                  try clear c26
                  try clear c26b0
                  try clear c26b1
                  try clear c28
                  try clear c28b0
                  try clear c28b1
                  try clear c29
                  try clear c36
                  try clear c36b0
                  try clear c36b1
                  try clear c37
                  try clear c47
                  try clear p47
                  try clear q47
                  try clear hx47
                  try clear c48
                  try clear c48b0
                  try clear c48b1
                  try clear p48
                  try clear q48
                  try clear hx48
                  try clear hcz47_0
                  try clear hcz47_1
                  try clear hcz49_0
                  try clear hcz49_1
                  try clear hcz51_0
                  try clear hcz51_1
                  try clear hfz47_0
                  try clear hfz47_1
                  try clear hfz49_0
                  try clear hfz49_1
                  try clear hfz51_0
                  try clear hfz51_1
                  try clear hx473_0
                  try clear hx475_0
                  try clear hx476_0
                  try clear hx480_0
                  try clear p2
                  try clear p4
                  try clear p473
                  try clear p475
                  try clear p476
                  try clear p480
                  try clear p6
                  try clear q4
                  try clear q473
                  try clear q475
                  try clear q476
                  try clear q480
                  obtain ⟨kq, x89_40, rfl, HA, HJ40, HO_5, HO_11, BK501, HB⟩ := hcut
                  cases kq with
                  | zero => exact absurd HA.out (by simp [glebelaw9_CsvrBack.j4])
                  | succ kj40 =>
                    have H := HA.out
                    clear HA
                    simp only [glebelaw9_CsvrBack.j4] at H
                    by_cases c52 : x89_40 = true
                    · subst c52
                      have H1 : (none) = some r := by rw [if_pos rfl] at H; exact H
                      clear H
                      have H := H1
                      clear H1
                      exact absurd H (by simp)
                    · replace c52 := Bool.eq_false_iff.mpr c52
                      subst c52
                      have H1 : (glebelaw9_CsvrBack.l2 kj40 x5_33 t496 (t496.length : Int) 0) = some r := by rw [if_neg (show ¬ (false = true) by decide)] at H; exact H
                      clear H
                      have H := H1
                      clear H1
                      have H' := Aside0.mk H
                      clear H
                      obtain ⟨Ao53, co53, eo53⟩ := Kd.S_slice HO_11.out
                      subst eo53
                      go_wp2
                      repeat (go_quiet (fail); try go_wp2)
                      go_loopg [92] kj40 (fun kq v92 w' => ∃ (x92_5 : Int), v92 = .int .i64 x92_5 ∧ Aside0 (glebelaw9_CsvrBack.l2 kq x5_33 t496 (t496.length : Int) x92_5 = some r) ∧ Aside0 (kq ≤ kj40) ∧ Aside0 (Kd.S (Kd.slice 9 Kd.string) 39 w' w.heap.size (fun _ => True) (.slice Ao42 x5_33.length co42) x5_33) ∧ Aside0 (Kd.S (Kd.slice 59 k59) 57 w' w.heap.size (fun _ => True) (.slice Ao53 t496.length co53) t496) ∧ Aside0 (w'.heap[gb501]? = some (.cells #[.int .i64 t499, .int .i64 t500] 54 (0, 0))) ∧ Aside0 (Below w.heap.size w w'))
                      case atStart => exact ⟨(0), (by first | rfl | (simp only [i64_w]; done) | (simp; done) | (simp [*]; done)), H', ⟨Nat.le_refl _⟩, ⟨by (with_reducible repeat (first | apply Kd.S_alloc | apply Kd.S_drewN | apply Kd.S_drew)); exact HO_5.out⟩, ⟨by (with_reducible repeat (first | apply Kd.S_alloc | apply Kd.S_drewN | apply Kd.S_drew)); exact HO_11.out⟩, ⟨by (with_reducible repeat (first | refine blk_drewN ?_ _ | refine blk_drew ?_ | refine blk_alloc ?_ _)); exact BK501.out⟩, ⟨by repeat (first | (with_reducible first | exact HB.out | apply below_alloc | apply pw_below_drewN | apply below_drew1 | refine below_set ?_ GE501.out) | exact HB.out)⟩⟩
                      case round =>
                        clear H'
                        try clear c1
                        try clear c2
                        try clear p2
                        try clear hcv2
                        try clear c3
                        try clear c4
                        try clear c4b0
                        try clear p4
                        try clear q4
                        try clear hx4
                        try clear c5
                        try clear c6
                        try clear c6b0
                        try clear p6
                        try clear c7
                        try clear c7b0
                        try clear c8
                        try clear c8b0
                        try clear c8b1
                        try clear c11
                        try clear c11b0
                        try clear c12
                        try clear c12b0
                        try clear c13
                        try clear c13b0
                        try clear c14
                        try clear c15
                        try clear c15b0
                        try clear c16
                        try clear c16b0
                        try clear c17
                        try clear c17b0
                        try clear c17b1
                        try clear c17b2
                        try clear hcv23
                        try clear c24
                        try clear c26
                        try clear c26b0
                        try clear c26b1
                        try clear c28
                        try clear c28b0
                        try clear c28b1
                        try clear c29
                        try clear c36
                        try clear c36b0
                        try clear c36b1
                        try clear c37
                        try clear c47
                        try clear p47
                        try clear q47
                        try clear hx47
                        try clear c48
                        try clear c48b0
                        try clear c48b1
                        try clear p48
                        try clear q48
                        try clear hx48
                        try clear c52
                        try clear hcz47_0
                        try clear hcz47_1
                        try clear hcz49_0
                        try clear hcz49_1
                        try clear hcz51_0
                        try clear hcz51_1
                        try clear hfz47_0
                        try clear hfz47_1
                        try clear hfz49_0
                        try clear hfz49_1
                        try clear hfz51_0
                        try clear hfz51_1
                        try clear hx473_0
                        try clear hx475_0
                        try clear hx476_0
                        try clear hx480_0
                        try clear p2
                        try clear p4
                        try clear p47
                        try clear p473
                        try clear p475
                        try clear p476
                        try clear p48
                        try clear p480
                        try clear p6
                        try clear q4
                        try clear q47
                        try clear q473
                        try clear q475
                        try clear q476
                        try clear q48
                        try clear q480
                        obtain ⟨x92_5, rfl, HA, HK5, HO_5, HO_11, BK501, HB⟩ := hrel
                        cases gk with
                        | zero => exact absurd HA.out (by simp [glebelaw9_CsvrBack.l2])
                        | succ k5 =>
                          have H := HA.out
                          clear HA
                          simp only [glebelaw9_CsvrBack.l2] at H
                          by_cases c54 : x92_5 < (t496.length : Int)
                          · rw [if_pos c54] at H
                            have c54b0 : decide (x92_5 < (t496.length : Int)) = true := decide_eq_true c54
                            clear c54
                            by_cases c55 : 0 ≤ x92_5
                            · rw [if_pos c55] at H
                              have c55b0 : decide (0 ≤ x92_5) = true := decide_eq_true c55
                              clear c55
                              by_cases c56 : x92_5 < (t496.length : Int)
                              · rw [if_pos c56] at H
                                have c56b0 : decide (x92_5 < (t496.length : Int)) = true := decide_eq_true c56
                                clear c56
                                by_cases c57 : x92_5 < (x5_33.length : Int)
                                · rw [if_pos c57] at H
                                  have c57b0 : decide (x92_5 < (x5_33.length : Int)) = true := decide_eq_true c57
                                  clear c57
                                  by_cases c58 : ((rd_L4 t496 x92_5).length : Int) = ((rd_L5 x5_33 x92_5).length : Int)
                                  · rw [if_pos c58] at H
                                    have c58b0 : (((rd_L4 t496 x92_5).length : Int) == ((rd_L5 x5_33 x92_5).length : Int)) = true := beq_iff_eq.mpr c58
                                    have c58b1 : (((rd_L4 t496 x92_5).length : Int) != ((rd_L5 x5_33 x92_5).length : Int)) = false := bne_eq_false_iff_eq.mpr c58
                                    have c58b2 : ((rd_L4 t496 x92_5).length == (rd_L5 x5_33 x92_5).length) = true := by first | simpa using c58 | (simp at c58 ⊢; omega)
                                    clear c58
                                    have H' := Aside0.mk H
                                    clear H
                                    have p503 : 0 ≤ (x92_5 : Int) := of_decide_eq_true (by first | (with_reducible assumption) | assumption)
                                    have q503 : x92_5 < (t496.length : Int) := of_decide_eq_true (by first | (with_reducible assumption) | assumption)
                                    obtain ⟨ad503, A503_0, c503_0, e503, hx503_0, hl503_0, hi503_0⟩ := at_L4 (Kd.S_reads' HO_11.out).2.2 x92_5 p503 q503
                                    cases e503
                                    obtain ⟨ce503, hce503, hMe503, hcc503⟩ := Kd.S_get HO_11.out [] x92_5 p503 (by first | exact q503 | exact of_decide_eq_true (by first | (with_reducible assumption) | assumption) | (have e_ := (Kd.S_reads' HO_11.out).1; omega))
                                    obtain ⟨ve503_0, rfl, ge503_0⟩ := hMe503
                                    have hv503_0 := hcc503 0 _ rfl
                                    rw [Nat.add_zero, show ((Kd.slice 59 k59)).sz = 1 from rfl, Nat.mul_one] at hv503_0
                                    replace hv503_0 := Option.some.inj (hv503_0.symm.trans hx503_0)
                                    rw [hv503_0] at ge503_0
                                    have HL503_0 := Aside0.mk (show Kd.R k59 59 _ _ _ _ (rd_L4 t496 x92_5) from ge503_0)
                                    clear hv503_0 ge503_0
                                    clear hcc503 hce503
                                    have HR503_0 := Aside0.mk hi503_0
                                    have HC503_0 := Aside0.mk hl503_0
                                    clear hi503_0 hl503_0
                                    replace p503 := eq_true p503
                                    replace q503 := eq_true q503
                                    have p504 : 0 ≤ (x92_5 : Int) := of_decide_eq_true (by first | (with_reducible assumption) | assumption)
                                    have q504 : x92_5 < (x5_33.length : Int) := of_decide_eq_true (by first | (with_reducible assumption) | assumption)
                                    obtain ⟨ad504, A504_0, c504_0, e504, hx504_0, hl504_0, hi504_0⟩ := at_L5 (Kd.S_reads' HO_5.out).2.2 x92_5 p504 q504
                                    cases e504
                                    obtain ⟨ce504, hce504, hMe504, hcc504⟩ := Kd.S_get HO_5.out [] x92_5 p504 (by first | exact q504 | exact of_decide_eq_true (by first | (with_reducible assumption) | assumption) | (have e_ := (Kd.S_reads' HO_5.out).1; omega))
                                    obtain ⟨ve504_0, rfl, ge504_0⟩ := hMe504
                                    have hv504_0 := hcc504 0 _ rfl
                                    rw [Nat.add_zero, show ((Kd.slice 9 Kd.string)).sz = 1 from rfl, Nat.mul_one] at hv504_0
                                    replace hv504_0 := Option.some.inj (hv504_0.symm.trans hx504_0)
                                    rw [hv504_0] at ge504_0
                                    have HL504_0 := Aside0.mk (show Kd.R Kd.string 9 _ _ _ _ (rd_L5 x5_33 x92_5) from ge504_0)
                                    clear hv504_0 ge504_0
                                    clear hcc504 hce504
                                    have HR504_0 := Aside0.mk hi504_0
                                    have HC504_0 := Aside0.mk hl504_0
                                    clear hi504_0 hl504_0
                                    replace p504 := eq_true p504
                                    replace q504 := eq_true q504
                                    have p505 : 0 ≤ (x92_5 : Int) := of_decide_eq_true (by first | (with_reducible assumption) | assumption)
                                    have q505 : x92_5 < (t496.length : Int) := of_decide_eq_true (by first | (with_reducible assumption) | assumption)
                                    obtain ⟨ad505, A505_0, c505_0, e505, hx505_0, hl505_0, hi505_0⟩ := at_L4 (Kd.S_reads' HO_11.out).2.2 x92_5 p505 q505
                                    obtain rfl : ad503 = ad505 := (by injection e505)
                                    obtain ⟨ce505, hce505, hMe505, hcc505⟩ := Kd.S_get HO_11.out [] x92_5 p505 (by first | exact q505 | exact of_decide_eq_true (by first | (with_reducible assumption) | assumption) | (have e_ := (Kd.S_reads' HO_11.out).1; omega))
                                    obtain ⟨ve505_0, rfl, ge505_0⟩ := hMe505
                                    have hv505_0 := hcc505 0 _ rfl
                                    rw [Nat.add_zero, show ((Kd.slice 59 k59)).sz = 1 from rfl, Nat.mul_one] at hv505_0
                                    replace hv505_0 := Option.some.inj (hv505_0.symm.trans hx505_0)
                                    rw [hv505_0] at ge505_0
                                    have HL505_0 := Aside0.mk (show Kd.R k59 59 _ _ _ _ (rd_L4 t496 x92_5) from ge505_0)
                                    clear hv505_0 ge505_0
                                    clear hcc505 hce505
                                    have HR505_0 := Aside0.mk hi505_0
                                    have HC505_0 := Aside0.mk hl505_0
                                    clear hi505_0 hl505_0
                                    replace p505 := eq_true p505
                                    replace q505 := eq_true q505
                                    have ea_ := Option.some.inj (hx503_0.symm.trans hx505_0)
                                    injection ea_ with ea_ en_ ec_
                                    subst ea_
                                    subst ec_
                                    clear en_
                                    go_wp2
                                    repeat (go_quiet (fail); try go_wp2)
                                    go_loopg [111] k5 (fun kq v111 w' => ∃ (x111_6 : Int), v111 = .int .i64 x111_6 ∧ Aside0 (glebelaw9_CsvrBack.l3 kq x5_33 t496 x92_5 (t496.length : Int) x92_5 ((rd_L4 t496 x92_5).length : Int) x111_6 = some r) ∧ Aside0 (kq ≤ k5) ∧ Aside0 (Kd.S (Kd.slice 9 Kd.string) 39 w' w.heap.size (fun _ => True) (.slice (some ad504) x5_33.length co42) x5_33) ∧ Aside0 (Kd.S (Kd.slice 59 k59) 57 w' w.heap.size (fun _ => True) (.slice (some ad503) t496.length co53) t496) ∧ Aside0 (w'.heap[gb501]? = some (.cells #[.int .i64 t499, .int .i64 t500] 54 (0, 0))) ∧ Aside0 (Kd.C k59 w' A503_0 (rd_L4 t496 x92_5).length (rd_L4 t496 x92_5)) ∧ Aside0 (Kd.C Kd.string w' A504_0 (rd_L5 x5_33 x92_5).length (rd_L5 x5_33 x92_5)) ∧ Aside0 (Kd.C k59 w' A503_0 (rd_L4 t496 x92_5).length (rd_L4 t496 x92_5)) ∧ Aside0 (Below w.heap.size w w'))
                                    case atStart => exact ⟨(0), (by first | rfl | (simp only [i64_w]; done) | (simp; done) | (simp [*]; done)), H', ⟨Nat.le_refl _⟩, ⟨by (with_reducible repeat (first | apply Kd.S_alloc | apply Kd.S_drewN | apply Kd.S_drew)); exact HO_5.out⟩, ⟨by (with_reducible repeat (first | apply Kd.S_alloc | apply Kd.S_drewN | apply Kd.S_drew)); exact HO_11.out⟩, ⟨by (with_reducible repeat (first | refine blk_drewN ?_ _ | refine blk_drew ?_ | refine blk_alloc ?_ _)); exact BK501.out⟩, ⟨by repeat (first | (with_reducible exact HR503_0.out) | (with_reducible refine Kd.C_alloc ?_ _) | (with_reducible refine Kd.C_drewN ?_ _) | (with_reducible refine Kd.C_drew ?_) | exact HR503_0.out)⟩, ⟨by repeat (first | (with_reducible exact HR504_0.out) | (with_reducible refine Kd.C_alloc ?_ _) | (with_reducible refine Kd.C_drewN ?_ _) | (with_reducible refine Kd.C_drew ?_) | exact HR504_0.out)⟩, ⟨by repeat (first | (with_reducible exact HR505_0.out) | (with_reducible refine Kd.C_alloc ?_ _) | (with_reducible refine Kd.C_drewN ?_ _) | (with_reducible refine Kd.C_drew ?_) | exact HR505_0.out)⟩, ⟨by repeat (first | (with_reducible first | exact HB.out | apply below_alloc | apply pw_below_drewN | apply below_drew1 | refine below_set ?_ GE501.out) | exact HB.out)⟩⟩
                                    case round =>
                                      clear H'
                                      try clear c1
                                      try clear c2
                                      try clear p2
                                      try clear hcv2
                                      try clear c3
                                      try clear c4
                                      try clear c4b0
                                      try clear p4
                                      try clear q4
                                      try clear hx4
                                      try clear c5
                                      try clear p5
                                      try clear q5
                                      try clear hx5
                                      try clear c6
                                      try clear c6b0
                                      try clear p6
                                      try clear c7
                                      try clear c7b0
                                      try clear c8
                                      try clear c8b0
                                      try clear c8b1
                                      try clear c11
                                      try clear c11b0
                                      try clear c12
                                      try clear c12b0
                                      try clear c13
                                      try clear c13b0
                                      try clear c14
                                      try clear c15
                                      try clear c15b0
                                      try clear c16
                                      try clear c16b0
                                      try clear c17
                                      try clear c17b0
                                      try clear c17b1
                                      try clear c17b2
                                      try clear hcv23
                                      try clear c24
                                      try clear c26
                                      try clear c26b0
                                      try clear c26b1
                                      try clear c28
                                      try clear c28b0
                                      try clear c28b1
                                      try clear c29
                                      try clear c36
                                      try clear c36b0
                                      try clear c36b1
                                      try clear c37
                                      try clear c47
                                      try clear p47
                                      try clear q47
                                      try clear hx47
                                      try clear c48
                                      try clear c48b0
                                      try clear c48b1
                                      try clear p48
                                      try clear q48
                                      try clear hx48
                                      try clear c50
                                      try clear p50
                                      try clear q50
                                      try clear hx50
                                      try clear c52
                                      try clear c54
                                      try clear c54b0
                                      try clear c55
                                      try clear c55b0
                                      try clear c56
                                      try clear c56b0
                                      try clear c57
                                      try clear c57b0
                                      try clear c58
                                      try clear c58b0
                                      try clear c58b1
                                      try clear c58b2
                                      try clear hcz47_0
                                      try clear hcz47_1
                                      try clear hcz49_0
                                      try clear hcz49_1
                                      try clear hcz51_0
                                      try clear hcz51_1
                                      try clear hfz47_0
                                      try clear hfz47_1
                                      try clear hfz49_0
                                      try clear hfz49_1
                                      try clear hfz51_0
                                      try clear hfz51_1
                                      try clear hx473_0
                                      try clear hx475_0
                                      try clear hx476_0
                                      try clear hx480_0
                                      try clear hx503_0
                                      try clear hx504_0
                                      try clear hx505_0
                                      try clear p2
                                      try clear p4
                                      try clear p47
                                      try clear p473
                                      try clear p475
                                      try clear p476
                                      try clear p48
                                      try clear p480
                                      try clear p503
                                      try clear p504
                                      try clear p505
                                      try clear p6
                                      try clear q4
                                      try clear q47
                                      try clear q473
                                      try clear q475
                                      try clear q476
                                      try clear q48
                                      try clear q480
                                      try clear q503
                                      try clear q504
                                      try clear q505
                                      obtain ⟨x111_6, rfl, HA, HK6, HO_5, HO_11, BK501, HR503_0, HR504_0, HR505_0, HB⟩ := hrel
                                      cases gk with
                                      | zero => exact absurd HA.out (by simp [glebelaw9_CsvrBack.l3])
                                      | succ k6 =>
                                        have H := HA.out
                                        clear HA
                                        simp only [glebelaw9_CsvrBack.l3] at H
                                        by_cases c59 : x111_6 < ((rd_L4 t496 x92_5).length : Int)
                                        · rw [if_pos c59] at H
                                          have c59b0 : decide (x111_6 < ((rd_L4 t496 x92_5).length : Int)) = true := decide_eq_true c59
                                          clear c59
                                          by_cases c60 : 0 ≤ x92_5
                                          · rw [if_pos c60] at H
                                            have c60b0 : decide (0 ≤ x92_5) = true := decide_eq_true c60
                                            clear c60
                                            by_cases c61 : x92_5 < (t496.length : Int)
                                            · rw [if_pos c61] at H
                                              have c61b0 : decide (x92_5 < (t496.length : Int)) = true := decide_eq_true c61
                                              clear c61
                                              by_cases c62 : 0 ≤ x111_6
                                              · rw [if_pos c62] at H
                                                have c62b0 : decide (0 ≤ x111_6) = true := decide_eq_true c62
                                                clear c62
                                                by_cases c63 : x111_6 < ((rd_L4 t496 x92_5).length : Int)
                                                · rw [if_pos c63] at H
                                                  have c63b0 : decide (x111_6 < ((rd_L4 t496 x92_5).length : Int)) = true := decide_eq_true c63
                                                  clear c63
                                                  by_cases c64 : x92_5 < (x5_33.length : Int)
                                                  · rw [if_pos c64] at H
                                                    have c64b0 : decide (x92_5 < (x5_33.length : Int)) = true := decide_eq_true c64
                                                    clear c64
                                                    by_cases c65 : x111_6 < ((rd_L5 x5_33 x92_5).length : Int)
                                                    · rw [if_pos c65] at H
                                                      have c65b0 : decide (x111_6 < ((rd_L5 x5_33 x92_5).length : Int)) = true := decide_eq_true c65
                                                      clear c65
                                                      by_cases c66 : ((rd_T59 (rd_L4 t496 x92_5) x111_6).f1).toList = (rdOf ByteArray.empty (rd_L5 x5_33 x92_5) x111_6).toList
                                                      · rw [if_pos c66] at H
                                                        have c66b0 : (((rd_T59 (rd_L4 t496 x92_5) x111_6).f1).toList == (rdOf ByteArray.empty (rd_L5 x5_33 x92_5) x111_6).toList) = true := beq_iff_eq.mpr c66
                                                        have c66b1 : (((rd_T59 (rd_L4 t496 x92_5) x111_6).f1).toList != (rdOf ByteArray.empty (rd_L5 x5_33 x92_5) x111_6).toList) = false := bne_eq_false_iff_eq.mpr c66
                                                        clear c66
                                                        by_cases c67 : ((rd_T59 (rd_L4 t496 x92_5) x111_6).f0) = 5
                                                        · rw [if_pos c67] at H
                                                          have c67b0 : (((rd_T59 (rd_L4 t496 x92_5) x111_6).f0) == 5) = true := beq_iff_eq.mpr c67
                                                          have c67b1 : (((rd_T59 (rd_L4 t496 x92_5) x111_6).f0) != 5) = false := bne_eq_false_iff_eq.mpr c67
                                                          clear c67
                                                          have H' := Aside0.mk H
                                                          clear H
                                                          have p506 : 0 ≤ (x92_5 : Int) := of_decide_eq_true (by first | (with_reducible assumption) | assumption)
                                                          have q506 : x92_5 < (t496.length : Int) := of_decide_eq_true (by first | (with_reducible assumption) | assumption)
                                                          obtain ⟨ad506, A506_0, c506_0, e506, hx506_0, hl506_0, hi506_0⟩ := at_L4 (Kd.S_reads' HO_11.out).2.2 x92_5 p506 q506
                                                          obtain rfl : ad503 = ad506 := (by injection e506)
                                                          obtain ⟨ce506, hce506, hMe506, hcc506⟩ := Kd.S_get HO_11.out [] x92_5 p506 (by first | exact q506 | exact of_decide_eq_true (by first | (with_reducible assumption) | assumption) | (have e_ := (Kd.S_reads' HO_11.out).1; omega))
                                                          obtain ⟨ve506_0, rfl, ge506_0⟩ := hMe506
                                                          have hv506_0 := hcc506 0 _ rfl
                                                          rw [Nat.add_zero, show ((Kd.slice 59 k59)).sz = 1 from rfl, Nat.mul_one] at hv506_0
                                                          replace hv506_0 := Option.some.inj (hv506_0.symm.trans hx506_0)
                                                          rw [hv506_0] at ge506_0
                                                          have HL506_0 := Aside0.mk (show Kd.R k59 59 _ _ _ _ (rd_L4 t496 x92_5) from ge506_0)
                                                          clear hv506_0 ge506_0
                                                          clear hcc506 hce506
                                                          have HR506_0 := Aside0.mk hi506_0
                                                          have HC506_0 := Aside0.mk hl506_0
                                                          clear hi506_0 hl506_0
                                                          replace p506 := eq_true p506
                                                          replace q506 := eq_true q506
                                                          have p507 : 0 ≤ (x111_6 : Int) := of_decide_eq_true (by first | (with_reducible assumption) | assumption)
                                                          have q507 : x111_6 < ((rd_L4 t496 x92_5).length : Int) := of_decide_eq_true (by first | (with_reducible assumption) | assumption)
                                                          obtain ⟨ad507, e507, hx507_0, hx507_1, hx507_2⟩ := at_T59 (by repeat (first | (with_reducible exact HR506_0.out) | (with_reducible refine Kd.C_alloc ?_ _) | (with_reducible refine Kd.C_drewN ?_ _) | (with_reducible refine Kd.C_drew ?_) | exact HR506_0.out)) x111_6 p507 q507
                                                          cases e507
                                                          replace p507 := eq_true p507
                                                          replace q507 := eq_true q507
                                                          have p508 : 0 ≤ (x92_5 : Int) := of_decide_eq_true (by first | (with_reducible assumption) | assumption)
                                                          have q508 : x92_5 < (x5_33.length : Int) := of_decide_eq_true (by first | (with_reducible assumption) | assumption)
                                                          obtain ⟨ad508, A508_0, c508_0, e508, hx508_0, hl508_0, hi508_0⟩ := at_L5 (Kd.S_reads' HO_5.out).2.2 x92_5 p508 q508
                                                          obtain rfl : ad504 = ad508 := (by injection e508)
                                                          obtain ⟨ce508, hce508, hMe508, hcc508⟩ := Kd.S_get HO_5.out [] x92_5 p508 (by first | exact q508 | exact of_decide_eq_true (by first | (with_reducible assumption) | assumption) | (have e_ := (Kd.S_reads' HO_5.out).1; omega))
                                                          obtain ⟨ve508_0, rfl, ge508_0⟩ := hMe508
                                                          have hv508_0 := hcc508 0 _ rfl
                                                          rw [Nat.add_zero, show ((Kd.slice 9 Kd.string)).sz = 1 from rfl, Nat.mul_one] at hv508_0
                                                          replace hv508_0 := Option.some.inj (hv508_0.symm.trans hx508_0)
                                                          rw [hv508_0] at ge508_0
                                                          have HL508_0 := Aside0.mk (show Kd.R Kd.string 9 _ _ _ _ (rd_L5 x5_33 x92_5) from ge508_0)
                                                          clear hv508_0 ge508_0
                                                          clear hcc508 hce508
                                                          have HR508_0 := Aside0.mk hi508_0
                                                          have HC508_0 := Aside0.mk hl508_0
                                                          clear hi508_0 hl508_0
                                                          replace p508 := eq_true p508
                                                          replace q508 := eq_true q508
                                                          have p509 : 0 ≤ (x111_6 : Int) := of_decide_eq_true (by first | (with_reducible assumption) | assumption)
                                                          have q509 : x111_6 < ((rd_L5 x5_33 x92_5).length : Int) := of_decide_eq_true (by first | (with_reducible assumption) | assumption)
                                                          obtain ⟨ad509, e509, hx509_0⟩ := Kd.at_string (by repeat (first | (with_reducible exact HR508_0.out) | (with_reducible refine Kd.C_alloc ?_ _) | (with_reducible refine Kd.C_drewN ?_ _) | (with_reducible refine Kd.C_drew ?_) | exact HR508_0.out)) x111_6 p509 q509
                                                          cases e509
                                                          replace p509 := eq_true p509
                                                          replace q509 := eq_true q509
                                                          have p510 : 0 ≤ (x92_5 : Int) := of_decide_eq_true (by first | (with_reducible assumption) | assumption)
                                                          have q510 : x92_5 < (t496.length : Int) := of_decide_eq_true (by first | (with_reducible assumption) | assumption)
                                                          obtain ⟨ad510, A510_0, c510_0, e510, hx510_0, hl510_0, hi510_0⟩ := at_L4 (Kd.S_reads' HO_11.out).2.2 x92_5 p510 q510
                                                          obtain rfl : ad503 = ad510 := (by injection e510)
                                                          obtain ⟨ce510, hce510, hMe510, hcc510⟩ := Kd.S_get HO_11.out [] x92_5 p510 (by first | exact q510 | exact of_decide_eq_true (by first | (with_reducible assumption) | assumption) | (have e_ := (Kd.S_reads' HO_11.out).1; omega))
                                                          obtain ⟨ve510_0, rfl, ge510_0⟩ := hMe510
                                                          have hv510_0 := hcc510 0 _ rfl
                                                          rw [Nat.add_zero, show ((Kd.slice 59 k59)).sz = 1 from rfl, Nat.mul_one] at hv510_0
                                                          replace hv510_0 := Option.some.inj (hv510_0.symm.trans hx510_0)
                                                          rw [hv510_0] at ge510_0
                                                          have HL510_0 := Aside0.mk (show Kd.R k59 59 _ _ _ _ (rd_L4 t496 x92_5) from ge510_0)
                                                          clear hv510_0 ge510_0
                                                          clear hcc510 hce510
                                                          have HR510_0 := Aside0.mk hi510_0
                                                          have HC510_0 := Aside0.mk hl510_0
                                                          clear hi510_0 hl510_0
                                                          replace p510 := eq_true p510
                                                          replace q510 := eq_true q510
                                                          have ea_ := Option.some.inj (hx506_0.symm.trans hx510_0)
                                                          injection ea_ with ea_ en_ ec_
                                                          subst ea_
                                                          subst ec_
                                                          clear en_
                                                          have p511 : 0 ≤ (x111_6 : Int) := of_decide_eq_true (by first | (with_reducible assumption) | assumption)
                                                          have q511 : x111_6 < ((rd_L4 t496 x92_5).length : Int) := of_decide_eq_true (by first | (with_reducible assumption) | assumption)
                                                          obtain ⟨ad511, e511, hx511_0, hx511_1, hx511_2⟩ := at_T59 (by repeat (first | (with_reducible exact HR510_0.out) | (with_reducible refine Kd.C_alloc ?_ _) | (with_reducible refine Kd.C_drewN ?_ _) | (with_reducible refine Kd.C_drew ?_) | exact HR510_0.out)) x111_6 p511 q511
                                                          cases e511
                                                          replace p511 := eq_true p511
                                                          replace q511 := eq_true q511
                                                          go_wp2
                                                          repeat (go_quiet (fail); try go_wp2)
                                                          go_roundg k6
                                                          case measure => have := HK1.out; have := HJ2.out; have := HJ33.out; have := HJ40.out; have := HK5.out; have := HK6.out; omega
                                                          case rel => exact ⟨(wrap64 (x111_6 + 1)), (by first | rfl | (simp only [i64_w]; done) | (simp; done) | (simp [*]; done)), H', ⟨by have := HK1.out; have := HJ2.out; have := HJ33.out; have := HJ40.out; have := HK5.out; have := HK6.out; omega⟩, ⟨by (with_reducible repeat (first | apply Kd.S_alloc | apply Kd.S_drewN | apply Kd.S_drew)); exact HO_5.out⟩, ⟨by (with_reducible repeat (first | apply Kd.S_alloc | apply Kd.S_drewN | apply Kd.S_drew)); exact HO_11.out⟩, ⟨by (with_reducible repeat (first | refine blk_drewN ?_ _ | refine blk_drew ?_ | refine blk_alloc ?_ _)); exact BK501.out⟩, ⟨by repeat (first | (with_reducible exact HR503_0.out) | (with_reducible refine Kd.C_alloc ?_ _) | (with_reducible refine Kd.C_drewN ?_ _) | (with_reducible refine Kd.C_drew ?_) | exact HR503_0.out)⟩, ⟨by repeat (first | (with_reducible exact HR504_0.out) | (with_reducible refine Kd.C_alloc ?_ _) | (with_reducible refine Kd.C_drewN ?_ _) | (with_reducible refine Kd.C_drew ?_) | exact HR504_0.out)⟩, ⟨by repeat (first | (with_reducible exact HR505_0.out) | (with_reducible refine Kd.C_alloc ?_ _) | (with_reducible refine Kd.C_drewN ?_ _) | (with_reducible refine Kd.C_drew ?_) | exact HR505_0.out)⟩, ⟨by repeat (first | (with_reducible first | exact HB.out | apply below_alloc | apply pw_below_drewN | apply below_drew1 | refine below_set ?_ GE501.out) | exact HB.out)⟩⟩
                                                        · rw [if_neg c67] at H
                                                          exact absurd H (by simp)
                                                      · rw [if_neg c66] at H
                                                        exact absurd H (by simp)
                                                    · rw [if_neg c65] at H
                                                      exact absurd H (by simp)
                                                  · rw [if_neg c64] at H
                                                    exact absurd H (by simp)
                                                · rw [if_neg c63] at H
                                                  exact absurd H (by simp)
                                              · rw [if_neg c62] at H
                                                exact absurd H (by simp)
                                            · rw [if_neg c61] at H
                                              exact absurd H (by simp)
                                          · rw [if_neg c60] at H
                                            exact absurd H (by simp)
                                        · rw [if_neg c59] at H
                                          have c59b0 : decide (x111_6 < ((rd_L4 t496 x92_5).length : Int)) = false := decide_eq_false c59
                                          clear c59
                                          have H' := Aside0.mk H
                                          clear H
                                          go_wp2
                                          repeat (go_quiet (fail); try go_wp2)
                                          go_roundg k6
                                          case measure => have := HK1.out; have := HJ2.out; have := HJ33.out; have := HJ40.out; have := HK5.out; have := HK6.out; omega
                                          case rel => exact ⟨(wrap64 (x92_5 + 1)), (by first | rfl | (simp only [i64_w]; done) | (simp; done) | (simp [*]; done)), H', ⟨by have := HK1.out; have := HJ2.out; have := HJ33.out; have := HJ40.out; have := HK5.out; have := HK6.out; omega⟩, ⟨by (with_reducible repeat (first | apply Kd.S_alloc | apply Kd.S_drewN | apply Kd.S_drew)); exact HO_5.out⟩, ⟨by (with_reducible repeat (first | apply Kd.S_alloc | apply Kd.S_drewN | apply Kd.S_drew)); exact HO_11.out⟩, ⟨by (with_reducible repeat (first | refine blk_drewN ?_ _ | refine blk_drew ?_ | refine blk_alloc ?_ _)); exact BK501.out⟩, ⟨by repeat (first | (with_reducible first | exact HB.out | apply below_alloc | apply pw_below_drewN | apply below_drew1 | refine below_set ?_ GE501.out) | exact HB.out)⟩⟩
                                  · rw [if_neg c58] at H
                                    exact absurd H (by simp)
                                · rw [if_neg c57] at H
                                  exact absurd H (by simp)
                              · rw [if_neg c56] at H
                                exact absurd H (by simp)
                            · rw [if_neg c55] at H
                              exact absurd H (by simp)
                          · rw [if_neg c54] at H
                            have c54b0 : decide (x92_5 < (t496.length : Int)) = false := decide_eq_false c54
                            clear c54
                            replace H := Option.bind_eq_some_iff.mp H
                            obtain ⟨t502, A680, H⟩ := H
                            replace H : (some t502) = some r := H
                            have A68 := Aside0.mk A680
                            clear A680
                            obtain rfl := Option.some.inj H
                            go_wp2_with (first | (go_at_call 34; (with_reducible refine (glebelaw9_awake.calls k5  t502 _ ?side1 A68.out).mono ?_); (case side1 => exact XM.Tabs.below hMax (by repeat (first | (with_reducible first | exact HB.out | apply below_alloc | apply pw_below_drewN | apply below_drew1 | refine below_set ?_ GE501.out) | exact HB.out))); rintro e w69 ⟨rfl, hb⟩; have n0_ := Aside0.mk (Kd.S_below (by (with_reducible repeat (first | apply Kd.S_alloc | apply Kd.S_drewN | apply Kd.S_drew)); exact HO_5.out) hb); have n1_ := Aside0.mk (Kd.S_below (by (with_reducible repeat (first | apply Kd.S_alloc | apply Kd.S_drewN | apply Kd.S_drew)); exact HO_11.out) hb); have n2_ := Aside0.mk (blk_below (g := gb501) (o := .cells #[.int .i64 t499, .int .i64 t500] 54 (0, 0)) (by (with_reducible repeat (first | refine blk_drewN ?_ _ | refine blk_drew ?_ | refine blk_alloc ?_ _)); exact BK501.out) hb); have n3_ := Aside0.mk (below_step (by repeat (first | (with_reducible first | exact HB.out | apply below_alloc | apply pw_below_drewN | apply below_drew1 | refine below_set ?_ GE501.out) | exact HB.out)) hb); clear HO_5; clear HO_11; clear BK501; clear HB; have HO_5 := n0_; have HO_11 := n1_; have BK501 := n2_; have HB := n3_; clear n0_ n1_ n2_ n3_; (try clear hb); (try clear hb2); (try clear hk); (try clear hi)))
                            repeat (go_quiet (first | (go_at_call 34; (with_reducible refine (glebelaw9_awake.calls k5  t502 _ ?side1 A68.out).mono ?_); (case side1 => exact XM.Tabs.below hMax (by repeat (first | (with_reducible first | exact HB.out | apply below_alloc | apply pw_below_drewN | apply below_drew1 | refine below_set ?_ GE501.out) | exact HB.out))); rintro e w69 ⟨rfl, hb⟩; have n0_ := Aside0.mk (Kd.S_below (by (with_reducible repeat (first | apply Kd.S_alloc | apply Kd.S_drewN | apply Kd.S_drew)); exact HO_5.out) hb); have n1_ := Aside0.mk (Kd.S_below (by (with_reducible repeat (first | apply Kd.S_alloc | apply Kd.S_drewN | apply Kd.S_drew)); exact HO_11.out) hb); have n2_ := Aside0.mk (blk_below (g := gb501) (o := .cells #[.int .i64 t499, .int .i64 t500] 54 (0, 0)) (by (with_reducible repeat (first | refine blk_drewN ?_ _ | refine blk_drew ?_ | refine blk_alloc ?_ _)); exact BK501.out) hb); have n3_ := Aside0.mk (below_step (by repeat (first | (with_reducible first | exact HB.out | apply below_alloc | apply pw_below_drewN | apply below_drew1 | refine below_set ?_ GE501.out) | exact HB.out)) hb); clear HO_5; clear HO_11; clear BK501; clear HB; have HO_5 := n0_; have HO_11 := n1_; have BK501 := n2_; have HB := n3_; clear n0_ n1_ n2_ n3_; (try clear hb); (try clear hb2); (try clear hk); (try clear hi))); try go_wp2_with (first | (go_at_call 34; (with_reducible refine (glebelaw9_awake.calls k5  t502 _ ?side1 A68.out).mono ?_); (case side1 => exact XM.Tabs.below hMax (by repeat (first | (with_reducible first | exact HB.out | apply below_alloc | apply pw_below_drewN | apply below_drew1 | refine below_set ?_ GE501.out) | exact HB.out))); rintro e w69 ⟨rfl, hb⟩; have n0_ := Aside0.mk (Kd.S_below (by (with_reducible repeat (first | apply Kd.S_alloc | apply Kd.S_drewN | apply Kd.S_drew)); exact HO_5.out) hb); have n1_ := Aside0.mk (Kd.S_below (by (with_reducible repeat (first | apply Kd.S_alloc | apply Kd.S_drewN | apply Kd.S_drew)); exact HO_11.out) hb); have n2_ := Aside0.mk (blk_below (g := gb501) (o := .cells #[.int .i64 t499, .int .i64 t500] 54 (0, 0)) (by (with_reducible repeat (first | refine blk_drewN ?_ _ | refine blk_drew ?_ | refine blk_alloc ?_ _)); exact BK501.out) hb); have n3_ := Aside0.mk (below_step (by repeat (first | (with_reducible first | exact HB.out | apply below_alloc | apply pw_below_drewN | apply below_drew1 | refine below_set ?_ GE501.out) | exact HB.out)) hb); clear HO_5; clear HO_11; clear BK501; clear HB; have HO_5 := n0_; have HO_11 := n1_; have BK501 := n2_; have HB := n3_; clear n0_ n1_ n2_ n3_; (try clear hb); (try clear hb2); (try clear hk); (try clear hi))))
                            go_ret
                            exact ⟨by first | rfl | (simp [errW_none, errW_some] <;> rfl) | (simp [*, errW_none, errW_some] <;> rfl), by repeat (first | (with_reducible first | exact HB.out | apply below_alloc | apply pw_below_drewN | apply below_drew1 | refine below_set ?_ GE501.out) | exact HB.out)⟩

/-- THE ONE PURE STATEMENT of glebelaw9_CsvrBack: yours. -/
def glebelaw9_CsvrBack.Pure : Prop := ∀ (l0 : List (List Int)) (a1 : Int), l0.length ≤ maxLen → (∀ x ∈ l0, x.length ≤ maxLen ∧ ∀ y ∈ x, (Lit.int .u8 y).wf = true) → (Lit.int .i64 a1).wf = true → ∃ k, glebelaw9_CsvrBack.f k l0 a1 = some true
theorem glebelaw9_CsvrBack.walk (P : glebelaw9_CsvrBack.Pure) (a0 : Option Addr) (cap0 : Nat) (l0 : List (List Int)) (a1 : Int) (w : World) (hr0 : Kd.C (Kd.slice 5 (Kd.int .u8)) w a0 l0.length l0) (hc0 : l0.length ≤ cap0) (hm0 : l0.length ≤ maxLen) (hw0 : ∀ x ∈ l0, x.length ≤ maxLen ∧ ∀ y ∈ x, (Lit.int .u8 y).wf = true) (w1 : (Lit.int .i64 a1).wf = true) (hMax : XM.Tabs w) :
    Calls Tryd.prog 14 #[.slice a0 l0.length cap0, .int .i64 a1] w fun e w' => e = .returned (.bool true) ∧ Below w.heap.size w w' := by
  obtain ⟨k, h⟩ := P l0 a1 hm0 hw0 w1
  refine (glebelaw9_CsvrBack.calls k _ _ l0 a1 true w hr0 hc0 hMax h).mono ?_
  rintro e w' ⟨rfl, hd⟩
  exact ⟨rfl, hd⟩

end Go.Proofs.YtcgchblljhbdaaaDoor.C
