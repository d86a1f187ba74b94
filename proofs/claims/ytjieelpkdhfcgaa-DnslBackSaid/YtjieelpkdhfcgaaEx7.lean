-- Printed by this session's own program (wip/xprint) out of the translation. Lean checks it.
import Derived.Test.YtjieelpkdhfcgaaEx0
import Derived.Test.YtjieelpkdhfcgaaEx5
import Derived.Test.YtjieelpkdhfcgaaEx6
namespace Go.Proofs.Ytjieelpkdhfcgaa.E
open Go.Proofs.Ytjieelpkdhfcgaa
open Go.RowKit Go.Proofs.YtjieelpkdhfcgaaW.PrintWords Go.Proofs.YtjieelpkdhfcgaaW.PrintLast Go.Proofs.YtjieelpkdhfcgaaW.PrintMore
attribute [local go_sem] max2_int min2_int max_two min_two max_three min_three max_four min_four   -- for this text's walks alone
set_option linter.unusedVariables false
set_option linter.unusedSimpArgs false

/-! ### glebelaw10_DnslBack: function 3 -/
mutual
def glebelaw10_DnslBack.l0 : Nat → List (List Int) → Int → List (S34) → Int → ByteArray → List (S36) → Int → Option (Bool)
 | 0, _, _, _, _, _, _, _ => none
 | k + 1, x1, x2, x7, x10, x240000, x240001, x240002 => if x10 < (x1.length : Int) then (glebelaw10_DnslBack.j1 k x1 x2 x7 x10 (decide (x10 < 10)) x240000 x240001 x240002) else (glebelaw10_DnslBack.j1 k x1 x2 x7 x10 false x240000 x240001 x240002)
def glebelaw10_DnslBack.j1 : Nat → List (List Int) → Int → List (S34) → Int → Bool → ByteArray → List (S36) → Int → Option (Bool)
 | 0, _, _, _, _, _, _, _, _ => none
 | k + 1, x1, x2, x7, x10, x55, x240000, x240001, x240002 => if x55 = true then (glebelaw10_DnslBack.l1 k x1 x2 x7 x10 (⟨#[]⟩ : ByteArray) 0 x240000 x240001 x240002) else (if (x240001.length : Int) > 0 then (if x7.length < 2932031007402 then (glebelaw10_DnslBack.j3 k x2 (x7 ++ [(⟨x240000, x240001, x240002⟩ : S34)])) else (none)) else (glebelaw10_DnslBack.j3 k x2 x7))
def glebelaw10_DnslBack.l1 : Nat → List (List Int) → Int → List (S34) → Int → ByteArray → Int → ByteArray → List (S36) → Int → Option (Bool)
 | 0, _, _, _, _, _, _, _, _, _ => none
 | k + 1, x1, x2, x7, x10, x11, x12, x240000, x240001, x240002 => if 0 ≤ x10 then (if x10 < (x1.length : Int) then (if x12 < ((rd_L6 x1 x10).length : Int) then (if x12 < 200 then (if 0 ≤ x12 then (if 0 ≤ (Int.tmod (Go.bits .and .u8 (rd (rd_L6 x1 x10) x12) 255) 10) then (if (Int.tmod (Go.bits .and .u8 (rd (rd_L6 x1 x10) x12) 255) 10) < 10 then ((some (([bt (⟨#[97, 98, 32, 48, 49, 35, 61, 45, 46, 58]⟩ : ByteArray) (Int.tmod (Go.bits .and .u8 (rd (rd_L6 x1 x10) x12) 255) 10)] : List Int) : List Int)).bind fun y243 => (if x11.size + (strOfNums y243).size ≤ 9223372036854775807 then (glebelaw10_DnslBack.l1 k x1 x2 x7 x10 (x11 ++ (strOfNums y243)) (wrap64 (x12 + 1)) x240000 x240001 x240002) else (none))) else (none)) else (none)) else (none)) else (if x240001.length < 4398046511104 then (glebelaw10_DnslBack.l0 k x1 x2 x7 (wrap64 (x10 + 1)) x240000 (x240001 ++ [(⟨6, x11, 0⟩ : S36)]) x240002) else (none))) else (if x240001.length < 4398046511104 then (glebelaw10_DnslBack.l0 k x1 x2 x7 (wrap64 (x10 + 1)) x240000 (x240001 ++ [(⟨6, x11, 0⟩ : S36)]) x240002) else (none))) else (none)) else (none)
def glebelaw10_DnslBack.j3 : Nat → Int → List (S34) → Option (Bool)
 | 0, _, _ => none
 | k + 1, x2, x7 => (dnsl_Print.f k x7).bind fun t255 => (if (x7.length : Int) > 0 then (if (x7.length : Int) = 0 then (none) else ((some (([] : List Int) : List Int)).bind fun y258 => (if 0 ≤ (Int.tmod (Go.bits .and .i64 x2 255) (x7.length : Int)) then (if (Int.tmod (Go.bits .and .i64 x2 255) (x7.length : Int)) ≤ (x7.length : Int) then ((dnsl_Print.f k (x7.take ((Int.tmod (Go.bits .and .i64 x2 255) (x7.length : Int)) : Int).toNat)).bind fun t265 => (if y258.length + t265.length < 140737488355328 then ((some (y258 ++ t265 : List Int)).bind fun y268 => (if y268.length + 8 < 140737488355328 then ((some (y268 ++ bytesOf (⟨#[10, 35, 32, 97, 61, 98, 10, 10]⟩ : ByteArray) : List Int)).bind fun y271 => ((dnsl_Print.f k (x7.drop ((Int.tmod (Go.bits .and .i64 x2 255) (x7.length : Int)) : Int).toNat)).bind fun t278 => (if y271.length + t278.length < 140737488355328 then (glebelaw10_DnslBack.j4 k x7 (y271 ++ t278)) else (none)))) else (none))) else (none))) else (none)) else (none)))) else (glebelaw10_DnslBack.j4 k x7 t255))
def glebelaw10_DnslBack.j4 : Nat → List (S34) → List Int → Option (Bool)
 | 0, _, _ => none
 | k + 1, x7, x13 => (dnsl_Parse.f k x13).bind fun bt284 => (if bt284.2.1 = 0 then (glebelaw10_DnslBack.j5 k x7 bt284.1 ((bt284.1.length : Int) != (x7.length : Int))) else (glebelaw10_DnslBack.j5 k x7 bt284.1 true))
def glebelaw10_DnslBack.j5 : Nat → List (S34) → List (S34) → Bool → Option (Bool)
 | 0, _, _, _ => none
 | k + 1, x7, x15, x136 => if x136 = true then (none) else (glebelaw10_DnslBack.l2 k x7 x15 (x15.length : Int) 0)
def glebelaw10_DnslBack.l2 : Nat → List (S34) → List (S34) → Int → Int → Option (Bool)
 | 0, _, _, _, _ => none
 | k + 1, x7, x15, x138, x139 => if x139 < x138 then (if 0 ≤ x139 then (if x139 < (x15.length : Int) then (if x139 < (x7.length : Int) then (if ((rd_T34 x15 x139).f0).toList = ((rd_T34 x7 x139).f0).toList then (glebelaw10_DnslBack.j7 k x7 x15 x139 x138 x139 ((((rd_T34 x15 x139).f1).length : Int) != (((rd_T34 x7 x139).f1).length : Int))) else (glebelaw10_DnslBack.j7 k x7 x15 x139 x138 x139 true)) else (none)) else (none)) else (none)) else ((glebelaw10_awake.f k).bind fun t290 => (some t290))
def glebelaw10_DnslBack.j7 : Nat → List (S34) → List (S34) → Int → Int → Int → Bool → Option (Bool)
 | 0, _, _, _, _, _, _ => none
 | k + 1, x7, x15, x17, x138, x139, x167 => if x167 = true then (none) else (if 0 ≤ x17 then (if x17 < (x15.length : Int) then (glebelaw10_DnslBack.l3 k x7 x15 x17 x138 x139 (((rd_T34 x15 x17).f1).length : Int) 0) else (none)) else (none))
def glebelaw10_DnslBack.l3 : Nat → List (S34) → List (S34) → Int → Int → Int → Int → Int → Option (Bool)
 | 0, _, _, _, _, _, _, _ => none
 | k + 1, x7, x15, x17, x138, x139, x173, x174 => if x174 < x173 then (if 0 ≤ x17 then (if x17 < (x15.length : Int) then (if 0 ≤ x174 then (if x174 < (((rd_T34 x15 x17).f1).length : Int) then (if x17 < (x7.length : Int) then (if x174 < (((rd_T34 x7 x17).f1).length : Int) then (if ((rd_T36 ((rd_T34 x15 x17).f1) x174).f1).toList = ((rd_T36 ((rd_T34 x7 x17).f1) x174).f1).toList then (glebelaw10_DnslBack.l3 k x7 x15 x17 x138 x139 x173 (wrap64 (x174 + 1))) else (none)) else (none)) else (none)) else (none)) else (none)) else (none)) else (none)) else (glebelaw10_DnslBack.l2 k x7 x15 x138 (wrap64 (x139 + 1)))
end
def glebelaw10_DnslBack.f (k : Nat) (l0 : List Int) (l1 : List (List Int)) (a2 : Int) : Option (Bool) := (glebelaw10_Text.f k l0).bind fun t226 => ((dnsl_Parse.f k t226).bind fun bt229 => (if bt229.2.1 = 0 then (glebelaw10_DnslBack.l0 k l1 a2 bt229.1 0 (⟨#[107, 101, 121]⟩ : ByteArray) ([] : List (S36)) 0) else (if (bt229.1.length : Int) = 0 then (if bt229.2.2 ≥ 0 then ((glebelaw10_Text.f k l0).bind fun t235 => (if bt229.2.2 ≤ (t235.length : Int) then ((glebelaw10_awake.f k).bind fun t238 => (some t238)) else (none))) else (none)) else (none))))
theorem glebelaw10_DnslBack.mono_l : ∀ k, (∀ y0 y1 y2 y3 y4 y5 y6, LeO (glebelaw10_DnslBack.l0 k y0 y1 y2 y3 y4 y5 y6) (glebelaw10_DnslBack.l0 (k + 1) y0 y1 y2 y3 y4 y5 y6)) ∧ (∀ y0 y1 y2 y3 y4 y5 y6 y7, LeO (glebelaw10_DnslBack.j1 k y0 y1 y2 y3 y4 y5 y6 y7) (glebelaw10_DnslBack.j1 (k + 1) y0 y1 y2 y3 y4 y5 y6 y7)) ∧ (∀ y0 y1 y2 y3 y4 y5 y6 y7 y8, LeO (glebelaw10_DnslBack.l1 k y0 y1 y2 y3 y4 y5 y6 y7 y8) (glebelaw10_DnslBack.l1 (k + 1) y0 y1 y2 y3 y4 y5 y6 y7 y8)) ∧ (∀ y0 y1, LeO (glebelaw10_DnslBack.j3 k y0 y1) (glebelaw10_DnslBack.j3 (k + 1) y0 y1)) ∧ (∀ y0 y1, LeO (glebelaw10_DnslBack.j4 k y0 y1) (glebelaw10_DnslBack.j4 (k + 1) y0 y1)) ∧ (∀ y0 y1 y2, LeO (glebelaw10_DnslBack.j5 k y0 y1 y2) (glebelaw10_DnslBack.j5 (k + 1) y0 y1 y2)) ∧ (∀ y0 y1 y2 y3, LeO (glebelaw10_DnslBack.l2 k y0 y1 y2 y3) (glebelaw10_DnslBack.l2 (k + 1) y0 y1 y2 y3)) ∧ (∀ y0 y1 y2 y3 y4 y5, LeO (glebelaw10_DnslBack.j7 k y0 y1 y2 y3 y4 y5) (glebelaw10_DnslBack.j7 (k + 1) y0 y1 y2 y3 y4 y5)) ∧ (∀ y0 y1 y2 y3 y4 y5 y6, LeO (glebelaw10_DnslBack.l3 k y0 y1 y2 y3 y4 y5 y6) (glebelaw10_DnslBack.l3 (k + 1) y0 y1 y2 y3 y4 y5 y6))
 | 0 => ⟨fun _ _ _ _ _ _ _ r h => by simp [glebelaw10_DnslBack.l0] at h, fun _ _ _ _ _ _ _ _ r h => by simp [glebelaw10_DnslBack.j1] at h, fun _ _ _ _ _ _ _ _ _ r h => by simp [glebelaw10_DnslBack.l1] at h, fun _ _ r h => by simp [glebelaw10_DnslBack.j3] at h, fun _ _ r h => by simp [glebelaw10_DnslBack.j4] at h, fun _ _ _ r h => by simp [glebelaw10_DnslBack.j5] at h, fun _ _ _ _ r h => by simp [glebelaw10_DnslBack.l2] at h, fun _ _ _ _ _ _ r h => by simp [glebelaw10_DnslBack.j7] at h, fun _ _ _ _ _ _ _ r h => by simp [glebelaw10_DnslBack.l3] at h⟩
 | k + 1 => by
  obtain ⟨ih0, ih1, ih2, ih3, ih4, ih5, ih6, ih7, ih8⟩ := glebelaw10_DnslBack.mono_l k
  refine ⟨?_, ?_, ?_, ?_, ?_, ?_, ?_, ?_, ?_⟩
  ·intro y0 y1 y2 y3 y4 y5 y6
   unfold glebelaw10_DnslBack.l0
   repeat' first
   | (with_reducible exact ih0 _ _ _ _ _ _ _)
   | (with_reducible exact ih1 _ _ _ _ _ _ _ _)
   | (with_reducible exact ih2 _ _ _ _ _ _ _ _ _)
   | (with_reducible exact ih3 _ _)
   | (with_reducible exact ih4 _ _)
   | (with_reducible exact ih5 _ _ _)
   | (with_reducible exact ih6 _ _ _ _)
   | (with_reducible exact ih7 _ _ _ _ _ _)
   | (with_reducible exact ih8 _ _ _ _ _ _ _)
   | (with_reducible exact dnsl_Parse.mono _ _)
   | (with_reducible exact dnsl_Print.mono _ _)
   | (with_reducible exact glebelaw10_Text.mono _ _)
   | (with_reducible exact glebelaw10_awake.mono _)
   | (with_reducible exact LeO.refl _)
   | (with_reducible exact LeO.none _)
   | (with_reducible refine LeO.ite ?_ ?_)
   | (with_reducible refine LeO.bind ?_ (fun _ => ?_))
   | exact ih0 _ _ _ _ _ _ _
   | exact ih1 _ _ _ _ _ _ _ _
   | exact ih2 _ _ _ _ _ _ _ _ _
   | exact ih3 _ _
   | exact ih4 _ _
   | exact ih5 _ _ _
   | exact ih6 _ _ _ _
   | exact ih7 _ _ _ _ _ _
   | exact ih8 _ _ _ _ _ _ _
   | exact dnsl_Parse.mono _ _
   | exact dnsl_Print.mono _ _
   | exact glebelaw10_Text.mono _ _
   | exact glebelaw10_awake.mono _
   | exact LeO.none _
   | refine LeO.ite ?_ ?_
   | refine LeO.bind ?_ (fun _ => ?_)
  ·intro y0 y1 y2 y3 y4 y5 y6 y7
   unfold glebelaw10_DnslBack.j1
   repeat' first
   | (with_reducible exact ih0 _ _ _ _ _ _ _)
   | (with_reducible exact ih1 _ _ _ _ _ _ _ _)
   | (with_reducible exact ih2 _ _ _ _ _ _ _ _ _)
   | (with_reducible exact ih3 _ _)
   | (with_reducible exact ih4 _ _)
   | (with_reducible exact ih5 _ _ _)
   | (with_reducible exact ih6 _ _ _ _)
   | (with_reducible exact ih7 _ _ _ _ _ _)
   | (with_reducible exact ih8 _ _ _ _ _ _ _)
   | (with_reducible exact dnsl_Parse.mono _ _)
   | (with_reducible exact dnsl_Print.mono _ _)
   | (with_reducible exact glebelaw10_Text.mono _ _)
   | (with_reducible exact glebelaw10_awake.mono _)
   | (with_reducible exact LeO.refl _)
   | (with_reducible exact LeO.none _)
   | (with_reducible refine LeO.ite ?_ ?_)
   | (with_reducible refine LeO.bind ?_ (fun _ => ?_))
   | exact ih0 _ _ _ _ _ _ _
   | exact ih1 _ _ _ _ _ _ _ _
   | exact ih2 _ _ _ _ _ _ _ _ _
   | exact ih3 _ _
   | exact ih4 _ _
   | exact ih5 _ _ _
   | exact ih6 _ _ _ _
   | exact ih7 _ _ _ _ _ _
   | exact ih8 _ _ _ _ _ _ _
   | exact dnsl_Parse.mono _ _
   | exact dnsl_Print.mono _ _
   | exact glebelaw10_Text.mono _ _
   | exact glebelaw10_awake.mono _
   | exact LeO.none _
   | refine LeO.ite ?_ ?_
   | refine LeO.bind ?_ (fun _ => ?_)
  ·intro y0 y1 y2 y3 y4 y5 y6 y7 y8
   unfold glebelaw10_DnslBack.l1
   repeat' first
   | (with_reducible exact ih0 _ _ _ _ _ _ _)
   | (with_reducible exact ih1 _ _ _ _ _ _ _ _)
   | (with_reducible exact ih2 _ _ _ _ _ _ _ _ _)
   | (with_reducible exact ih3 _ _)
   | (with_reducible exact ih4 _ _)
   | (with_reducible exact ih5 _ _ _)
   | (with_reducible exact ih6 _ _ _ _)
   | (with_reducible exact ih7 _ _ _ _ _ _)
   | (with_reducible exact ih8 _ _ _ _ _ _ _)
   | (with_reducible exact dnsl_Parse.mono _ _)
   | (with_reducible exact dnsl_Print.mono _ _)
   | (with_reducible exact glebelaw10_Text.mono _ _)
   | (with_reducible exact glebelaw10_awake.mono _)
   | (with_reducible exact LeO.refl _)
   | (with_reducible exact LeO.none _)
   | (with_reducible refine LeO.ite ?_ ?_)
   | (with_reducible refine LeO.bind ?_ (fun _ => ?_))
   | exact ih0 _ _ _ _ _ _ _
   | exact ih1 _ _ _ _ _ _ _ _
   | exact ih2 _ _ _ _ _ _ _ _ _
   | exact ih3 _ _
   | exact ih4 _ _
   | exact ih5 _ _ _
   | exact ih6 _ _ _ _
   | exact ih7 _ _ _ _ _ _
   | exact ih8 _ _ _ _ _ _ _
   | exact dnsl_Parse.mono _ _
   | exact dnsl_Print.mono _ _
   | exact glebelaw10_Text.mono _ _
   | exact glebelaw10_awake.mono _
   | exact LeO.none _
   | refine LeO.ite ?_ ?_
   | refine LeO.bind ?_ (fun _ => ?_)
  ·intro y0 y1
   unfold glebelaw10_DnslBack.j3
   repeat' first
   | (with_reducible exact ih0 _ _ _ _ _ _ _)
   | (with_reducible exact ih1 _ _ _ _ _ _ _ _)
   | (with_reducible exact ih2 _ _ _ _ _ _ _ _ _)
   | (with_reducible exact ih3 _ _)
   | (with_reducible exact ih4 _ _)
   | (with_reducible exact ih5 _ _ _)
   | (with_reducible exact ih6 _ _ _ _)
   | (with_reducible exact ih7 _ _ _ _ _ _)
   | (with_reducible exact ih8 _ _ _ _ _ _ _)
   | (with_reducible exact dnsl_Parse.mono _ _)
   | (with_reducible exact dnsl_Print.mono _ _)
   | (with_reducible exact glebelaw10_Text.mono _ _)
   | (with_reducible exact glebelaw10_awake.mono _)
   | (with_reducible exact LeO.refl _)
   | (with_reducible exact LeO.none _)
   | (with_reducible refine LeO.ite ?_ ?_)
   | (with_reducible refine LeO.bind ?_ (fun _ => ?_))
   | exact ih0 _ _ _ _ _ _ _
   | exact ih1 _ _ _ _ _ _ _ _
   | exact ih2 _ _ _ _ _ _ _ _ _
   | exact ih3 _ _
   | exact ih4 _ _
   | exact ih5 _ _ _
   | exact ih6 _ _ _ _
   | exact ih7 _ _ _ _ _ _
   | exact ih8 _ _ _ _ _ _ _
   | exact dnsl_Parse.mono _ _
   | exact dnsl_Print.mono _ _
   | exact glebelaw10_Text.mono _ _
   | exact glebelaw10_awake.mono _
   | exact LeO.none _
   | refine LeO.ite ?_ ?_
   | refine LeO.bind ?_ (fun _ => ?_)
  ·intro y0 y1
   unfold glebelaw10_DnslBack.j4
   repeat' first
   | (with_reducible exact ih0 _ _ _ _ _ _ _)
   | (with_reducible exact ih1 _ _ _ _ _ _ _ _)
   | (with_reducible exact ih2 _ _ _ _ _ _ _ _ _)
   | (with_reducible exact ih3 _ _)
   | (with_reducible exact ih4 _ _)
   | (with_reducible exact ih5 _ _ _)
   | (with_reducible exact ih6 _ _ _ _)
   | (with_reducible exact ih7 _ _ _ _ _ _)
   | (with_reducible exact ih8 _ _ _ _ _ _ _)
   | (with_reducible exact dnsl_Parse.mono _ _)
   | (with_reducible exact dnsl_Print.mono _ _)
   | (with_reducible exact glebelaw10_Text.mono _ _)
   | (with_reducible exact glebelaw10_awake.mono _)
   | (with_reducible exact LeO.refl _)
   | (with_reducible exact LeO.none _)
   | (with_reducible refine LeO.ite ?_ ?_)
   | (with_reducible refine LeO.bind ?_ (fun _ => ?_))
   | exact ih0 _ _ _ _ _ _ _
   | exact ih1 _ _ _ _ _ _ _ _
   | exact ih2 _ _ _ _ _ _ _ _ _
   | exact ih3 _ _
   | exact ih4 _ _
   | exact ih5 _ _ _
   | exact ih6 _ _ _ _
   | exact ih7 _ _ _ _ _ _
   | exact ih8 _ _ _ _ _ _ _
   | exact dnsl_Parse.mono _ _
   | exact dnsl_Print.mono _ _
   | exact glebelaw10_Text.mono _ _
   | exact glebelaw10_awake.mono _
   | exact LeO.none _
   | refine LeO.ite ?_ ?_
   | refine LeO.bind ?_ (fun _ => ?_)
  ·intro y0 y1 y2
   unfold glebelaw10_DnslBack.j5
   repeat' first
   | (with_reducible exact ih0 _ _ _ _ _ _ _)
   | (with_reducible exact ih1 _ _ _ _ _ _ _ _)
   | (with_reducible exact ih2 _ _ _ _ _ _ _ _ _)
   | (with_reducible exact ih3 _ _)
   | (with_reducible exact ih4 _ _)
   | (with_reducible exact ih5 _ _ _)
   | (with_reducible exact ih6 _ _ _ _)
   | (with_reducible exact ih7 _ _ _ _ _ _)
   | (with_reducible exact ih8 _ _ _ _ _ _ _)
   | (with_reducible exact dnsl_Parse.mono _ _)
   | (with_reducible exact dnsl_Print.mono _ _)
   | (with_reducible exact glebelaw10_Text.mono _ _)
   | (with_reducible exact glebelaw10_awake.mono _)
   | (with_reducible exact LeO.refl _)
   | (with_reducible exact LeO.none _)
   | (with_reducible refine LeO.ite ?_ ?_)
   | (with_reducible refine LeO.bind ?_ (fun _ => ?_))
   | exact ih0 _ _ _ _ _ _ _
   | exact ih1 _ _ _ _ _ _ _ _
   | exact ih2 _ _ _ _ _ _ _ _ _
   | exact ih3 _ _
   | exact ih4 _ _
   | exact ih5 _ _ _
   | exact ih6 _ _ _ _
   | exact ih7 _ _ _ _ _ _
   | exact ih8 _ _ _ _ _ _ _
   | exact dnsl_Parse.mono _ _
   | exact dnsl_Print.mono _ _
   | exact glebelaw10_Text.mono _ _
   | exact glebelaw10_awake.mono _
   | exact LeO.none _
   | refine LeO.ite ?_ ?_
   | refine LeO.bind ?_ (fun _ => ?_)
  ·intro y0 y1 y2 y3
   unfold glebelaw10_DnslBack.l2
   repeat' first
   | (with_reducible exact ih0 _ _ _ _ _ _ _)
   | (with_reducible exact ih1 _ _ _ _ _ _ _ _)
   | (with_reducible exact ih2 _ _ _ _ _ _ _ _ _)
   | (with_reducible exact ih3 _ _)
   | (with_reducible exact ih4 _ _)
   | (with_reducible exact ih5 _ _ _)
   | (with_reducible exact ih6 _ _ _ _)
   | (with_reducible exact ih7 _ _ _ _ _ _)
   | (with_reducible exact ih8 _ _ _ _ _ _ _)
   | (with_reducible exact dnsl_Parse.mono _ _)
   | (with_reducible exact dnsl_Print.mono _ _)
   | (with_reducible exact glebelaw10_Text.mono _ _)
   | (with_reducible exact glebelaw10_awake.mono _)
   | (with_reducible exact LeO.refl _)
   | (with_reducible exact LeO.none _)
   | (with_reducible refine LeO.ite ?_ ?_)
   | (with_reducible refine LeO.bind ?_ (fun _ => ?_))
   | exact ih0 _ _ _ _ _ _ _
   | exact ih1 _ _ _ _ _ _ _ _
   | exact ih2 _ _ _ _ _ _ _ _ _
   | exact ih3 _ _
   | exact ih4 _ _
   | exact ih5 _ _ _
   | exact ih6 _ _ _ _
   | exact ih7 _ _ _ _ _ _
   | exact ih8 _ _ _ _ _ _ _
   | exact dnsl_Parse.mono _ _
   | exact dnsl_Print.mono _ _
   | exact glebelaw10_Text.mono _ _
   | exact glebelaw10_awake.mono _
   | exact LeO.none _
   | refine LeO.ite ?_ ?_
   | refine LeO.bind ?_ (fun _ => ?_)
  ·intro y0 y1 y2 y3 y4 y5
   unfold glebelaw10_DnslBack.j7
   repeat' first
   | (with_reducible exact ih0 _ _ _ _ _ _ _)
   | (with_reducible exact ih1 _ _ _ _ _ _ _ _)
   | (with_reducible exact ih2 _ _ _ _ _ _ _ _ _)
   | (with_reducible exact ih3 _ _)
   | (with_reducible exact ih4 _ _)
   | (with_reducible exact ih5 _ _ _)
   | (with_reducible exact ih6 _ _ _ _)
   | (with_reducible exact ih7 _ _ _ _ _ _)
   | (with_reducible exact ih8 _ _ _ _ _ _ _)
   | (with_reducible exact dnsl_Parse.mono _ _)
   | (with_reducible exact dnsl_Print.mono _ _)
   | (with_reducible exact glebelaw10_Text.mono _ _)
   | (with_reducible exact glebelaw10_awake.mono _)
   | (with_reducible exact LeO.refl _)
   | (with_reducible exact LeO.none _)
   | (with_reducible refine LeO.ite ?_ ?_)
   | (with_reducible refine LeO.bind ?_ (fun _ => ?_))
   | exact ih0 _ _ _ _ _ _ _
   | exact ih1 _ _ _ _ _ _ _ _
   | exact ih2 _ _ _ _ _ _ _ _ _
   | exact ih3 _ _
   | exact ih4 _ _
   | exact ih5 _ _ _
   | exact ih6 _ _ _ _
   | exact ih7 _ _ _ _ _ _
   | exact ih8 _ _ _ _ _ _ _
   | exact dnsl_Parse.mono _ _
   | exact dnsl_Print.mono _ _
   | exact glebelaw10_Text.mono _ _
   | exact glebelaw10_awake.mono _
   | exact LeO.none _
   | refine LeO.ite ?_ ?_
   | refine LeO.bind ?_ (fun _ => ?_)
  ·intro y0 y1 y2 y3 y4 y5 y6
   unfold glebelaw10_DnslBack.l3
   repeat' first
   | (with_reducible exact ih0 _ _ _ _ _ _ _)
   | (with_reducible exact ih1 _ _ _ _ _ _ _ _)
   | (with_reducible exact ih2 _ _ _ _ _ _ _ _ _)
   | (with_reducible exact ih3 _ _)
   | (with_reducible exact ih4 _ _)
   | (with_reducible exact ih5 _ _ _)
   | (with_reducible exact ih6 _ _ _ _)
   | (with_reducible exact ih7 _ _ _ _ _ _)
   | (with_reducible exact ih8 _ _ _ _ _ _ _)
   | (with_reducible exact dnsl_Parse.mono _ _)
   | (with_reducible exact dnsl_Print.mono _ _)
   | (with_reducible exact glebelaw10_Text.mono _ _)
   | (with_reducible exact glebelaw10_awake.mono _)
   | (with_reducible exact LeO.refl _)
   | (with_reducible exact LeO.none _)
   | (with_reducible refine LeO.ite ?_ ?_)
   | (with_reducible refine LeO.bind ?_ (fun _ => ?_))
   | exact ih0 _ _ _ _ _ _ _
   | exact ih1 _ _ _ _ _ _ _ _
   | exact ih2 _ _ _ _ _ _ _ _ _
   | exact ih3 _ _
   | exact ih4 _ _
   | exact ih5 _ _ _
   | exact ih6 _ _ _ _
   | exact ih7 _ _ _ _ _ _
   | exact ih8 _ _ _ _ _ _ _
   | exact dnsl_Parse.mono _ _
   | exact dnsl_Print.mono _ _
   | exact glebelaw10_Text.mono _ _
   | exact glebelaw10_awake.mono _
   | exact LeO.none _
   | refine LeO.ite ?_ ?_
   | refine LeO.bind ?_ (fun _ => ?_)
theorem glebelaw10_DnslBack.mono : ∀ a0 a1 a2 k, LeO (glebelaw10_DnslBack.f k a0 a1 a2) (glebelaw10_DnslBack.f (k + 1) a0 a1 a2) := by
 intro a0 a1 a2 k
 obtain ⟨ih0, ih1, ih2, ih3, ih4, ih5, ih6, ih7, ih8⟩ := glebelaw10_DnslBack.mono_l k
 unfold glebelaw10_DnslBack.f
 repeat' first
   | (with_reducible exact ih0 _ _ _ _ _ _ _)
   | (with_reducible exact ih1 _ _ _ _ _ _ _ _)
   | (with_reducible exact ih2 _ _ _ _ _ _ _ _ _)
   | (with_reducible exact ih3 _ _)
   | (with_reducible exact ih4 _ _)
   | (with_reducible exact ih5 _ _ _)
   | (with_reducible exact ih6 _ _ _ _)
   | (with_reducible exact ih7 _ _ _ _ _ _)
   | (with_reducible exact ih8 _ _ _ _ _ _ _)
   | (with_reducible exact dnsl_Parse.mono _ _)
   | (with_reducible exact dnsl_Print.mono _ _)
   | (with_reducible exact glebelaw10_Text.mono _ _)
   | (with_reducible exact glebelaw10_awake.mono _)
   | (with_reducible exact LeO.refl _)
   | (with_reducible exact LeO.none _)
   | (with_reducible refine LeO.ite ?_ ?_)
   | (with_reducible refine LeO.bind ?_ (fun _ => ?_))
   | exact ih0 _ _ _ _ _ _ _
   | exact ih1 _ _ _ _ _ _ _ _
   | exact ih2 _ _ _ _ _ _ _ _ _
   | exact ih3 _ _
   | exact ih4 _ _
   | exact ih5 _ _ _
   | exact ih6 _ _ _ _
   | exact ih7 _ _ _ _ _ _
   | exact ih8 _ _ _ _ _ _ _
   | exact dnsl_Parse.mono _ _
   | exact dnsl_Print.mono _ _
   | exact glebelaw10_Text.mono _ _
   | exact glebelaw10_awake.mono _
   | exact LeO.none _
   | refine LeO.ite ?_ ?_
   | refine LeO.bind ?_ (fun _ => ?_)
def glebelaw10_DnslBack.T3 : Bool × List (List Nat × List Nat) := (true, [([], []), ([0], [0]), ([1], [1]), ([2], [2]), ([3], [3]), ([4, 3], [3, 4]), ([5, 3], [3, 5]), ([3, 6], [3, 6]), ([7, 3], [7]), ([8], [8]), ([9, 8], [8, 9]), ([8], [8]), ([11, 8, 8], [8, 11]), ([12, 8], [8, 12]), ([10, 13, 8], [8, 10, 13]), ([8, 14], [8, 14]), ([15, 12], [15]), ([16, 16], [16]), ([16, 17], [16, 17]), ([18, 17, 0, 1, 2, 3, 4, 5, 6, 7, 8, 9, 10, 11, 12, 13, 14, 15, 16, 17, 18], [18])])
def glebelaw10_DnslBack.B3 : List Nat := [0, 1, 3, 7, 15, 31, 63, 127, 255, 511, 1023, 511, 2559, 6655, 16383, 32767, 65535, 131071, 262143, 524287]
theorem glebelaw10_DnslBack.tab3 : rtab .any (opsOf Try.f3 3) = glebelaw10_DnslBack.T3 := by kernel_rfl
theorem glebelaw10_DnslBack.bits3 : waitsOk glebelaw10_DnslBack.T3.2 glebelaw10_DnslBack.B3 = true := by kernel_rfl
def glebelaw10_DnslBack.T20 : Bool × List (List Nat × List Nat) := (true, [([], []), ([], []), ([], []), ([1, 2], [1, 2]), ([3], [3]), ([0, 4, 4], [0, 4]), ([5, 5], [5]), ([], []), ([], []), ([7, 8], [7, 8]), ([9, 6], [9]), ([6, 10, 10], [6, 10]), ([11, 11, 0, 1, 2, 3, 4, 5, 6, 7, 8, 9, 10, 11], [11])])
def glebelaw10_DnslBack.B20 : List Nat := [0, 0, 0, 6, 14, 31, 63, 0, 0, 384, 1023, 2047, 4095]
theorem glebelaw10_DnslBack.tab20 : rtab .any (opsOf Try.f3 20) = glebelaw10_DnslBack.T20 := by kernel_rfl
theorem glebelaw10_DnslBack.bits20 : waitsOk glebelaw10_DnslBack.T20.2 glebelaw10_DnslBack.B20 = true := by kernel_rfl
def glebelaw10_DnslBack.T27 : Bool × List (List Nat × List Nat) := (true, [([], []), ([], []), ([0, 1], [0, 1]), ([2], [2]), ([3], [3]), ([], []), ([], []), ([5, 6], [5, 6]), ([7], [7]), ([8], [8]), ([4, 9], [4, 9]), ([10], [10]), ([11], [11]), ([11], [11]), ([12, 13, 11], [11, 12, 13]), ([14, 11], [11, 14]), ([15, 11], [11, 15]), ([16, 11], [11, 16]), ([11], [11]), ([11], [11]), ([18, 19, 11], [11, 18, 19]), ([20, 11], [11, 20]), ([21, 11], [11, 21]), ([22, 11], [11, 22]), ([17, 23, 11], [11, 17, 23]), ([11, 24], [11, 24])])
def glebelaw10_DnslBack.B27 : List Nat := [0, 0, 3, 7, 15, 0, 0, 96, 224, 480, 1023, 2047, 4095, 4095, 16383, 32767, 65535, 131071, 4095, 4095, 790527, 1839103, 3936255, 8130559, 16777215, 33554431]
theorem glebelaw10_DnslBack.tab27 : rtab .any (opsOf Try.f3 27) = glebelaw10_DnslBack.T27 := by kernel_rfl
theorem glebelaw10_DnslBack.bits27 : waitsOk glebelaw10_DnslBack.T27.2 glebelaw10_DnslBack.B27 = true := by kernel_rfl
def glebelaw10_DnslBack.T32 : Bool × List (List Nat × List Nat) := (true, [([], []), ([], []), ([0, 1], [0, 1]), ([2], [2]), ([3], [3]), ([], []), ([4, 5], [4, 5]), ([6], [6]), ([7], [7]), ([], []), ([], []), ([9, 10], [9, 10]), ([11], [11]), ([12], [12]), ([], []), ([13, 14], [13, 14]), ([15], [15]), ([16], [16]), ([8, 17], [8, 17])])
def glebelaw10_DnslBack.B32 : List Nat := [0, 0, 3, 7, 15, 0, 63, 127, 255, 0, 0, 1536, 3584, 7680, 0, 32256, 65024, 130560, 262143]
theorem glebelaw10_DnslBack.tab32 : rtab .any (opsOf Try.f3 32) = glebelaw10_DnslBack.T32 := by kernel_rfl
theorem glebelaw10_DnslBack.bits32 : waitsOk glebelaw10_DnslBack.T32.2 glebelaw10_DnslBack.B32 = true := by kernel_rfl
set_option maxHeartbeats 8000000 in
set_option maxRecDepth 100000 in
theorem glebelaw10_DnslBack.calls (k : Nat) (A0 : Option Addr) (c0 : Nat) (l0 : List Int) (A1 : Option Addr) (c1 : Nat) (l1 : List (List Int)) (a2 : Int) (r : Bool) (w : World) (hr0 : Kd.C (Kd.int .i64) w A0 l0.length l0) (hc0 : l0.length ≤ c0) (hr1 : Kd.C (Kd.slice 5 (Kd.int .u8)) w A1 l1.length l1) (hc1 : l1.length ≤ c1) (h : glebelaw10_DnslBack.f k l0 l1 a2 = some r) :
  Calls Try.prog 3 #[.slice A0 l0.length c0, .slice A1 l1.length c1, .int .i64 a2] w fun e w' => e = .returned (.bool r) ∧ Below w.heap.size w w' := by
 have hu26 := Try.underlying26
 have hu34 := Try.underlying34
 have hu36 := Try.underlying36
 have HR0 := Aside0.mk hr0
 have HC0 := Aside0.mk hc0
 clear hr0 hc0
 have HR1 := Aside0.mk hr1
 have HC1 := Aside0.mk hc1
 clear hr1 hc1
 have HB := Aside0.mk (Below.refl w.heap.size w)
 have H : ((glebelaw10_Text.f k l0).bind fun t226 => ((dnsl_Parse.f k t226).bind fun bt229 => (if bt229.2.1 = 0 then (glebelaw10_DnslBack.l0 k l1 a2 bt229.1 0 (⟨#[107, 101, 121]⟩ : ByteArray) ([] : List (S36)) 0) else (if (bt229.1.length : Int) = 0 then (if bt229.2.2 ≥ 0 then ((glebelaw10_Text.f k l0).bind fun t235 => (if bt229.2.2 ≤ (t235.length : Int) then ((glebelaw10_awake.f k).bind fun t238 => (some t238)) else (none))) else (none)) else (none))))) = some r := h
 clear h
 replace H := Option.bind_eq_some_iff.mp H
 obtain ⟨t226, A40, H⟩ := H
 replace H : ((dnsl_Parse.f k t226).bind fun bt229 => (if bt229.2.1 = 0 then (glebelaw10_DnslBack.l0 k l1 a2 bt229.1 0 (⟨#[107, 101, 121]⟩ : ByteArray) ([] : List (S36)) 0) else (if (bt229.1.length : Int) = 0 then (if bt229.2.2 ≥ 0 then ((glebelaw10_Text.f k l0).bind fun t235 => (if bt229.2.2 ≤ (t235.length : Int) then ((glebelaw10_awake.f k).bind fun t238 => (some t238)) else (none))) else (none)) else (none)))) = some r := H
 have A4 := Aside0.mk A40
 clear A40
 replace H := Option.bind_eq_some_iff.mp H
 obtain ⟨⟨t229, t232, t233⟩, A50, H⟩ := H
 replace H : (if t232 = 0 then (glebelaw10_DnslBack.l0 k l1 a2 t229 0 (⟨#[107, 101, 121]⟩ : ByteArray) ([] : List (S36)) 0) else (if (t229.length : Int) = 0 then (if t233 ≥ 0 then ((glebelaw10_Text.f k l0).bind fun t235 => (if t233 ≤ (t235.length : Int) then ((glebelaw10_awake.f k).bind fun t238 => (some t238)) else (none))) else (none)) else (none))) = some r := H
 have A5 := Aside0.mk A50
 clear A50
 by_cases c6 : t232 = 0
 ·rw [if_pos c6] at H
  have c6b0 : (t232 == 0) = true := beq_iff_eq.mpr c6
  have c6b1 : (t232 != 0) = false := bne_eq_false_iff_eq.mpr c6
  clear c6
  have H' := Aside0.mk H
  clear H
  go_enter Try.func3, Try.ntmps3
  go_wp2_with (first | ((with_reducible refine gate_callee (f := 5) rfl ?_); refine goesL_ (some 21) rfl rfl Try.func5 (by kernel_rfl) rfl #[.slice A0 l0.length c0] rfl (by (try simp only [List.map_toArray, List.map_cons, List.map_nil]); first | done | rfl | (simp only [List.length_drop, List.length_take]; rfl)) ?_; (with_reducible refine (glebelaw10_Text.calls k _ _ l0 t226 _ ?side1 ?side2 A4.out).mono ?_); (case side1 => repeat (first | exact HR0.out | (with_reducible refine Kd.C_alloc ?_ _) | (with_reducible refine Kd.C_drewN ?_ _) | (with_reducible refine Kd.C_drew ?_))); (case side2 => exact HC0.out); rintro e w7 ⟨v227, rfl, ho0, hb⟩; refine ⟨_, rfl, ?_⟩; have n0_ := Aside0.mk (Kd.R_lower ho0 (below_size (by repeat (first | (with_reducible first | exact HB.out | apply below_alloc | apply pw_below_drewN | apply below_drew1) | exact HB.out)))); have n1_ := Aside0.mk (below_step (by repeat (first | (with_reducible first | exact HB.out | apply below_alloc | apply pw_below_drewN | apply below_drew1) | exact HB.out)) hb); clear HB; have HO228 := n0_; have HB := n1_; clear n0_ n1_; (try clear hb); (try clear hb2); (try clear hk); (try clear hi); (try clear ho0); obtain ⟨Ao8, co8, eo8⟩ := Kd.R_slice HO228.out; subst eo8) | ((with_reducible refine gate_callee (f := 4) rfl ?_); refine goesL_ (some 22) rfl rfl Try.func4 (by kernel_rfl) rfl #[.slice Ao8 t226.length co8] rfl (by (try simp only [List.map_toArray, List.map_cons, List.map_nil]); first | done | rfl | (simp only [List.length_drop, List.length_take]; rfl)) ?_; (with_reducible refine (dnsl_Parse.calls k _ _ t226 t229 t232 t233 _ ?side1 ?side2 A5.out).mono ?_); (case side1 => repeat (first | exact (Kd.R_reads' HO228.out).2.2 | (with_reducible refine Kd.C_alloc ?_ _) | (with_reducible refine Kd.C_drewN ?_ _) | (with_reducible refine Kd.C_drew ?_))); (case side2 => exact (Kd.R_reads' HO228.out).2.1); rintro e w9 ⟨v230, rfl, ho0, hb⟩; refine ⟨_, rfl, ?_⟩; have n0_ := Aside0.mk (Kd.R_below (by (with_reducible repeat (first | apply Kd.R_alloc | apply Kd.R_drewN | apply Kd.R_drew)); exact HO228.out) hb); have n1_ := Aside0.mk (Kd.S_lower ho0 (below_size (by repeat (first | (with_reducible first | exact HB.out | apply below_alloc | apply pw_below_drewN | apply below_drew1) | exact HB.out)))); have n2_ := Aside0.mk (below_step (by repeat (first | (with_reducible first | exact HB.out | apply below_alloc | apply pw_below_drewN | apply below_drew1) | exact HB.out)) hb); clear HO228; clear HB; have HO228 := n0_; have HO231 := n1_; have HB := n2_; clear n0_ n1_ n2_; (try clear hb); (try clear hb2); (try clear hk); (try clear hi); (try clear ho0)) | ((with_reducible refine gate_dst (N := 8) rfl ?_); (try (refine gate_guard (by rfl) ?_; dsimp only)); refine box_event ?hg (N := 8) ?hd (cs := #[.int .i64 0, .int .i64 0]) (t := 26) ?hr ?_; (case hd => rfl); (case hg => rfl); (case hr => first | (go_simp; done) | (go_simp; rfl)); intro gb234 hg w10 hbox hb; have n0_ := Aside0.mk (Kd.R_below (by (with_reducible repeat (first | apply Kd.R_alloc | apply Kd.R_drewN | apply Kd.R_drew)); exact HO228.out) hb); have n1_ := Aside0.mk (Kd.S_below (by (with_reducible repeat (first | apply Kd.S_alloc | apply Kd.S_drewN | apply Kd.S_drew)); exact HO231.out) hb); have n2_ := Aside0.mk (below_step (by repeat (first | (with_reducible first | exact HB.out | apply below_alloc | apply pw_below_drewN | apply below_drew1) | exact HB.out)) hb); have n3_ := Aside0.mk (hbox); have n4_ := Aside0.mk ((by rw [hg]; exact (below_size (by repeat (first | (with_reducible first | exact HB.out | apply below_alloc | apply pw_below_drewN | apply below_drew1) | exact HB.out))) : w.heap.size ≤ gb234)); have n5_ := Aside0.mk ((by rw [hg]; exact (below_size (by repeat (first | (with_reducible first | exact HB.out | apply below_alloc | apply pw_below_drewN | apply below_drew1) | exact HB.out))) : w.heap.size ≤ gb234)); clear HO228; clear HO231; clear HB; have HO228 := n0_; have HO231 := n1_; have HB := n2_; have BK234 := n3_; have GW234 := n4_; have GE234 := n5_; clear n0_ n1_ n2_ n3_ n4_ n5_; clear hb hbox hg; have hcz11_0 : w10.cell? ⟨gb234, 0, none⟩ = some (.int .i64 0) := (blk_cell BK234.out 0).trans rfl; have hcz11_1 : w10.cell? ⟨gb234, 1, none⟩ = some (.int .i64 0) := (blk_cell BK234.out 1).trans rfl; have hfz11_0 := blk_frozen BK234.out 0; have hfz11_1 := blk_frozen BK234.out 1) | ((with_reducible refine gate_dst (N := 9) rfl ?_); (try (refine gate_guard (by rfl) ?_; dsimp only)); refine box_event ?hg (N := 9) ?hd (cs := #[.string (⟨#[]⟩ : ByteArray), .slice none 0 0, .int .i64 0]) (t := 34) ?hr ?_; (case hd => rfl); (case hg => rfl); (case hr => first | (go_simp; done) | (go_simp; rfl)); intro gb239 hg w12 hbox hb; have n0_ := Aside0.mk (Kd.R_below (by (with_reducible repeat (first | apply Kd.R_alloc | apply Kd.R_drewN | apply Kd.R_drew)); exact (Kd.R_mono (Kd.R_far (p := ⟨gb234, 1, none⟩) (Kd.R_far (p := ⟨gb234, 0, none⟩) (Kd.R_types HO228.out BK234.out (by decide)) (fun _ hk => hk.2) (.int .i64 t232)) (fun _ hk => hk.2) (.int .i64 t233)) (fun _ h_ => h_.1))) hb); have n1_ := Aside0.mk (Kd.S_below (Kd.S_elderB (by (with_reducible repeat (first | apply Kd.S_alloc | apply Kd.S_drewN | apply Kd.S_drew)); exact (Kd.S_mono (Kd.S_far (p := ⟨gb234, 1, none⟩) (Kd.S_far (p := ⟨gb234, 0, none⟩) (Kd.S_types HO231.out BK234.out (by decide)) (fun _ hk => hk.2) (.int .i64 t232)) (fun _ hk => hk.2) (.int .i64 t233)) (fun _ h_ => h_.1))) gb239 (Nat.le_of_eq hg.symm)) hb); have n2_ := Aside0.mk (blk_below (g := gb234) (o := .cells #[.int .i64 t232, .int .i64 t233] 26 (0, 0)) (by (with_reducible repeat (first | refine blk_drewN ?_ _ | refine blk_drew ?_ | refine blk_alloc ?_ _)); refine blk_put (cs := #[.int .i64 t232, .int .i64 0]) ?_ 1 _ rfl; (with_reducible repeat (first | refine blk_drewN ?_ _ | refine blk_drew ?_ | refine blk_alloc ?_ _)); refine blk_put (cs := #[.int .i64 0, .int .i64 0]) ?_ 0 _ rfl; (with_reducible repeat (first | refine blk_drewN ?_ _ | refine blk_drew ?_ | refine blk_alloc ?_ _)); exact BK234.out) hb); have n3_ := Aside0.mk (below_step (by repeat (first | (with_reducible first | exact HB.out | apply below_alloc | apply pw_below_drewN | apply below_drew1 | refine below_set ?_ GE234.out) | exact HB.out)) hb); have n4_ := Aside0.mk (hbox); have n5_ := Aside0.mk ((by rw [hg]; exact (below_size (by repeat (first | (with_reducible first | exact HB.out | apply below_alloc | apply pw_below_drewN | apply below_drew1 | refine below_set ?_ GE234.out) | exact HB.out))) : w.heap.size ≤ gb239)); have n6_ := Aside0.mk ((by rw [hg]; exact (below_size (by repeat (first | (with_reducible first | exact HB.out | apply below_alloc | apply pw_below_drewN | apply below_drew1 | refine below_set ?_ GE234.out) | exact HB.out))) : w.heap.size ≤ gb239)); have n7_ := Aside0.mk ((by rw [hg]; exact Nat.ne_of_lt (blk_lt (g := gb234) (o := .cells #[.int .i64 t232, .int .i64 t233] 26 (0, 0)) (by (with_reducible repeat (first | refine blk_drewN ?_ _ | refine blk_drew ?_ | refine blk_alloc ?_ _)); refine blk_put (cs := #[.int .i64 t232, .int .i64 0]) ?_ 1 _ rfl; (with_reducible repeat (first | refine blk_drewN ?_ _ | refine blk_drew ?_ | refine blk_alloc ?_ _)); refine blk_put (cs := #[.int .i64 0, .int .i64 0]) ?_ 0 _ rfl; (with_reducible repeat (first | refine blk_drewN ?_ _ | refine blk_drew ?_ | refine blk_alloc ?_ _)); exact BK234.out)) : gb234 ≠ gb239)); have n8_ := Aside0.mk ((by rw [hg]; exact Nat.ne_of_gt (blk_lt (g := gb234) (o := .cells #[.int .i64 t232, .int .i64 t233] 26 (0, 0)) (by (with_reducible repeat (first | refine blk_drewN ?_ _ | refine blk_drew ?_ | refine blk_alloc ?_ _)); refine blk_put (cs := #[.int .i64 t232, .int .i64 0]) ?_ 1 _ rfl; (with_reducible repeat (first | refine blk_drewN ?_ _ | refine blk_drew ?_ | refine blk_alloc ?_ _)); refine blk_put (cs := #[.int .i64 0, .int .i64 0]) ?_ 0 _ rfl; (with_reducible repeat (first | refine blk_drewN ?_ _ | refine blk_drew ?_ | refine blk_alloc ?_ _)); exact BK234.out)) : gb239 ≠ gb234)); clear HO228; clear HO231; clear BK234; clear HB; have HO228 := n0_; have HO231 := n1_; have BK234 := n2_; have HB := n3_; have BK239 := n4_; have GW239 := n5_; have GE239 := n6_; have NB234_239 := n7_; have NB239_234 := n8_; clear n0_ n1_ n2_ n3_ n4_ n5_ n6_ n7_ n8_; clear hb hbox hg; have hnb13 := NB239_234.out; have hnc13 := NB234_239.out; have hcz14_0 : w12.cell? ⟨gb239, 0, none⟩ = some (.string (⟨#[]⟩ : ByteArray)) := (blk_cell BK239.out 0).trans rfl; have hcz14_1 : w12.cell? ⟨gb239, 1, none⟩ = some (.slice none 0 0) := (blk_cell BK239.out 1).trans rfl; have hcz14_2 : w12.cell? ⟨gb239, 2, none⟩ = some (.int .i64 0) := (blk_cell BK239.out 2).trans rfl; have hfz14_0 := blk_frozen BK239.out 0; have hfz14_1 := blk_frozen BK239.out 1; have hfz14_2 := blk_frozen BK239.out 2))
  go_loopg [10] k (fun kq v10 w' => ∃ (x10_1 : Int) (x240001_1 : List (S36)) (u240001 : Value), v10 = .int .i64 x10_1 ∧ Aside0 (glebelaw10_DnslBack.l0 kq l1 a2 t229 x10_1 (⟨#[107, 101, 121]⟩ : ByteArray) x240001_1 0 = some r) ∧ Aside0 (kq ≤ k) ∧ Aside0 (Kd.S k34 34 w' w.heap.size (fun k_ => some k_ ≠ (u240001 : Value).ownBlock ∧ k_ ≠ gb239) v230 t229) ∧ Aside0 (Kd.R k36 36 w' w.heap.size (fun _ => True) u240001 x240001_1) ∧ Aside0 (w'.heap[gb234]? = some (.cells #[.int .i64 t232, .int .i64 t233] 26 (0, 0))) ∧ Aside0 (w'.heap[gb239]? = some (.cells #[.string (⟨#[107, 101, 121]⟩ : ByteArray), u240001, .int .i64 0] 34 (0, 0))) ∧ Aside0 (Below w.heap.size w w'))
  case atStart => exact ⟨(0), (([] : List (S36))), (.slice none 0 0), (by first | rfl | (simp only [i64_w]; done) | (simp; done) | (simp [*]; done)), H', ⟨Nat.le_refl _⟩, ⟨by (with_reducible repeat (first | apply Kd.S_alloc | apply Kd.S_drewN | apply Kd.S_drew)); exact Kd.S_mono (Kd.S_far (p := ⟨gb239, 2, none⟩) (Kd.S_far (p := ⟨gb239, 1, none⟩) (Kd.S_far (p := ⟨gb239, 0, none⟩) (Kd.S_mono HO231.out (fun k_ hk => (⟨hk, hk.2⟩ : _ ∧ k_ ≠ gb239))) (fun _ hk => hk.2) (.string (⟨#[107, 101, 121]⟩ : ByteArray))) (fun _ hk => hk.2) (.slice none 0 0)) (fun _ hk => hk.2) (.int .i64 0)) (fun _ hk => ⟨(by simp [Value.ownBlock]), hk.1.2⟩)⟩, ⟨by first | exact Kd.R_nil _ _ _ _ _ | exact Kd.N_nil _ _ _ _ _ | exact Kd.V_nil _ _ _ _ _ | exact Kd.Q_nil _ _ _ _ _ | exact Kd.S_nil _ _ _ _ _⟩, ⟨by (with_reducible repeat (first | refine blk_drewN ?_ _ | refine blk_drew ?_ | refine blk_alloc ?_ _)); refine blk_far ?_ NB234_239.out _; (with_reducible repeat (first | refine blk_drewN ?_ _ | refine blk_drew ?_ | refine blk_alloc ?_ _)); refine blk_far ?_ NB234_239.out _; (with_reducible repeat (first | refine blk_drewN ?_ _ | refine blk_drew ?_ | refine blk_alloc ?_ _)); refine blk_far ?_ NB234_239.out _; (with_reducible repeat (first | refine blk_drewN ?_ _ | refine blk_drew ?_ | refine blk_alloc ?_ _)); exact BK234.out⟩, ⟨by (with_reducible repeat (first | refine blk_drewN ?_ _ | refine blk_drew ?_ | refine blk_alloc ?_ _)); refine blk_put (cs := #[.string (⟨#[107, 101, 121]⟩ : ByteArray), .slice none 0 0, .int .i64 0]) ?_ 2 _ rfl; (with_reducible repeat (first | refine blk_drewN ?_ _ | refine blk_drew ?_ | refine blk_alloc ?_ _)); refine blk_put (cs := #[.string (⟨#[107, 101, 121]⟩ : ByteArray), .slice none 0 0, .int .i64 0]) ?_ 1 _ rfl; (with_reducible repeat (first | refine blk_drewN ?_ _ | refine blk_drew ?_ | refine blk_alloc ?_ _)); refine blk_put (cs := #[.string (⟨#[]⟩ : ByteArray), .slice none 0 0, .int .i64 0]) ?_ 0 _ rfl; (with_reducible repeat (first | refine blk_drewN ?_ _ | refine blk_drew ?_ | refine blk_alloc ?_ _)); exact BK239.out⟩, ⟨by repeat (first | (with_reducible first | exact HB.out | apply below_alloc | apply pw_below_drewN | apply below_drew1 | refine below_set ?_ GE234.out | refine below_set ?_ GE239.out) | exact HB.out)⟩⟩
  case round =>
   clear H'
   try clear c1
   try clear p2
   try clear c3
   try clear c4
   try clear c5
   try clear c6
   try clear c6b0
   try clear c6b1
   try clear c13
   try clear hcz11_0
   try clear hcz11_1
   try clear hcz14_0
   try clear hcz14_1
   try clear hcz14_2
   try clear hfz11_0
   try clear hfz11_1
   try clear hfz14_0
   try clear hfz14_1
   try clear hfz14_2
   obtain ⟨x10_1, x240001_1, u240001, rfl, HA, HK1, HO_7, HO_240001, BK234, BK239, HB⟩ := hrel
   cases gk with
   | zero => exact absurd HA.out (by simp [glebelaw10_DnslBack.l0])
   | succ k1 =>
    have H := HA.out
    clear HA
    simp only [glebelaw10_DnslBack.l0] at H
    have HC15 := Aside0.mk H
    clear H
    go_upto_region 6 with (fail)
    go_cut [55] (fun v55 wc => ∃ (kq : Nat) (x55_14 : Bool), v55 = .bool x55_14 ∧ Aside0 (glebelaw10_DnslBack.j1 kq l1 a2 t229 x10_1 x55_14 (⟨#[107, 101, 121]⟩ : ByteArray) x240001_1 0 = some r) ∧ Aside0 (kq ≤ k1) ∧ Aside0 (Kd.S k34 34 wc w.heap.size (fun k_ => some k_ ≠ (u240001 : Value).ownBlock ∧ k_ ≠ gb239) v230 t229) ∧ Aside0 (Kd.R k36 36 wc w.heap.size (fun _ => True) u240001 x240001_1) ∧ Aside0 (wc.heap[gb234]? = some (.cells #[.int .i64 t232, .int .i64 t233] 26 (0, 0))) ∧ Aside0 (wc.heap[gb239]? = some (.cells #[.string (⟨#[107, 101, 121]⟩ : ByteArray), u240001, .int .i64 0] 34 (0, 0))) ∧ Aside0 (Below w.heap.size w wc))
    case first =>
     have H := HC15.out
     clear HC15
     by_cases c16 : x10_1 < (l1.length : Int)
     ·rw [if_pos c16] at H
      have c16b0 : decide (x10_1 < (l1.length : Int)) = true := decide_eq_true c16
      clear c16
      (first | rw [c16b0] | (simp only [i64_w, i32_w]; rw [c16b0]) | rw [c16b1] | skip)
      have H' := Aside0.mk H
      clear H
      go_wp2
      go_meet
      case rel => exact ⟨_, (decide (x10_1 < 10)), (by first | rfl | (simp only [i64_w]; done) | (simp; done) | (simp [*]; done)), H', ⟨by have := HK1.out; first | omega | exact Nat.le_refl _⟩, ⟨by (with_reducible repeat (first | apply Kd.S_alloc | apply Kd.S_drewN | apply Kd.S_drew)); exact HO_7.out⟩, ⟨by (with_reducible repeat (first | apply Kd.R_alloc | apply Kd.R_drewN | apply Kd.R_drew)); exact HO_240001.out⟩, ⟨by (with_reducible repeat (first | refine blk_drewN ?_ _ | refine blk_drew ?_ | refine blk_alloc ?_ _)); exact BK234.out⟩, ⟨by (with_reducible repeat (first | refine blk_drewN ?_ _ | refine blk_drew ?_ | refine blk_alloc ?_ _)); exact BK239.out⟩, ⟨by repeat (first | (with_reducible first | exact HB.out | apply below_alloc | apply pw_below_drewN | apply below_drew1 | refine below_set ?_ GE234.out | refine below_set ?_ GE239.out) | exact HB.out)⟩⟩
     ·rw [if_neg c16] at H
      have c16b0 : decide (x10_1 < (l1.length : Int)) = false := decide_eq_false c16
      clear c16
      (first | rw [c16b0] | (simp only [i64_w, i32_w]; rw [c16b0]) | rw [c16b1] | skip)
      have H' := Aside0.mk H
      clear H
      go_wp2
      go_meet
      case rel => exact ⟨_, (false), (by first | rfl | (simp only [i64_w]; done) | (simp; done) | (simp [*]; done)), H', ⟨by have := HK1.out; first | omega | exact Nat.le_refl _⟩, ⟨by (with_reducible repeat (first | apply Kd.S_alloc | apply Kd.S_drewN | apply Kd.S_drew)); exact HO_7.out⟩, ⟨by (with_reducible repeat (first | apply Kd.R_alloc | apply Kd.R_drewN | apply Kd.R_drew)); exact HO_240001.out⟩, ⟨by (with_reducible repeat (first | refine blk_drewN ?_ _ | refine blk_drew ?_ | refine blk_alloc ?_ _)); exact BK234.out⟩, ⟨by (with_reducible repeat (first | refine blk_drewN ?_ _ | refine blk_drew ?_ | refine blk_alloc ?_ _)); exact BK239.out⟩, ⟨by repeat (first | (with_reducible first | exact HB.out | apply below_alloc | apply pw_below_drewN | apply below_drew1 | refine below_set ?_ GE234.out | refine below_set ?_ GE239.out) | exact HB.out)⟩⟩
    case rest =>
     clear HC15
     try clear c1
     try clear p2
     try clear c3
     try clear c4
     try clear c5
     try clear c6
     try clear c6b0
     try clear c6b1
     try clear c13
     try clear c16
     try clear c16b0
     try clear hcz11_0
     try clear hcz11_1
     try clear hcz14_0
     try clear hcz14_1
     try clear hcz14_2
     try clear hfz11_0
     try clear hfz11_1
     try clear hfz14_0
     try clear hfz14_1
     try clear hfz14_2
     try clear p2
     obtain ⟨kq, x55_14, rfl, HA, HJ14, HO_7, HO_240001, BK234, BK239, HB⟩ := hcut
     cases kq with
     | zero => exact absurd HA.out (by simp [glebelaw10_DnslBack.j1])
     | succ kj14 =>
      have H := HA.out
      clear HA
      simp only [glebelaw10_DnslBack.j1] at H
      by_cases c17 : x55_14 = true
      ·subst c17
       have H1 : (glebelaw10_DnslBack.l1 kj14 l1 a2 t229 x10_1 (⟨#[]⟩ : ByteArray) 0 (⟨#[107, 101, 121]⟩ : ByteArray) x240001_1 0) = some r := by rw [if_pos rfl] at H; exact H
       clear H
       have H := H1
       clear H1
       have H' := Aside0.mk H
       clear H
       go_wp2
       go_loopg [11, 12] kj14 (fun kq v11 v12 w' => ∃ (x11_3 : ByteArray) (x12_3 : Int), v11 = .string x11_3 ∧ v12 = .int .i64 x12_3 ∧ Aside0 (glebelaw10_DnslBack.l1 kq l1 a2 t229 x10_1 x11_3 x12_3 (⟨#[107, 101, 121]⟩ : ByteArray) x240001_1 0 = some r) ∧ Aside0 (kq ≤ kj14) ∧ Aside0 (Kd.S k34 34 w' w.heap.size (fun k_ => some k_ ≠ (u240001 : Value).ownBlock ∧ k_ ≠ gb239) v230 t229) ∧ Aside0 (Kd.R k36 36 w' w.heap.size (fun _ => True) u240001 x240001_1) ∧ Aside0 (w'.heap[gb234]? = some (.cells #[.int .i64 t232, .int .i64 t233] 26 (0, 0))) ∧ Aside0 (w'.heap[gb239]? = some (.cells #[.string (⟨#[107, 101, 121]⟩ : ByteArray), u240001, .int .i64 0] 34 (0, 0))) ∧ Aside0 (Below w.heap.size w w'))
       case atStart => exact ⟨((⟨#[]⟩ : ByteArray)), (0), (by first | rfl | (simp only [i64_w]; done) | (simp; done) | (simp [*]; done)), (by first | rfl | (simp only [i64_w]; done) | (simp; done) | (simp [*]; done)), H', ⟨Nat.le_refl _⟩, ⟨by (with_reducible repeat (first | apply Kd.S_alloc | apply Kd.S_drewN | apply Kd.S_drew)); exact HO_7.out⟩, ⟨by (with_reducible repeat (first | apply Kd.R_alloc | apply Kd.R_drewN | apply Kd.R_drew)); exact HO_240001.out⟩, ⟨by (with_reducible repeat (first | refine blk_drewN ?_ _ | refine blk_drew ?_ | refine blk_alloc ?_ _)); exact BK234.out⟩, ⟨by (with_reducible repeat (first | refine blk_drewN ?_ _ | refine blk_drew ?_ | refine blk_alloc ?_ _)); exact BK239.out⟩, ⟨by repeat (first | (with_reducible first | exact HB.out | apply below_alloc | apply pw_below_drewN | apply below_drew1 | refine below_set ?_ GE234.out | refine below_set ?_ GE239.out) | exact HB.out)⟩⟩
       case round =>
        clear H'
        try clear c1
        try clear p2
        try clear c3
        try clear c4
        try clear c5
        try clear c6
        try clear c6b0
        try clear c6b1
        try clear c13
        try clear c16
        try clear c16b0
        try clear c17
        try clear hcz11_0
        try clear hcz11_1
        try clear hcz14_0
        try clear hcz14_1
        try clear hcz14_2
        try clear hfz11_0
        try clear hfz11_1
        try clear hfz14_0
        try clear hfz14_1
        try clear hfz14_2
        try clear p2
        obtain ⟨x11_3, x12_3, rfl, rfl, HA, HK3, HO_7, HO_240001, BK234, BK239, HB⟩ := hrel
        cases gk with
        | zero => exact absurd HA.out (by simp [glebelaw10_DnslBack.l1])
        | succ k3 =>
         have H := HA.out
         clear HA
         simp only [glebelaw10_DnslBack.l1] at H
         by_cases c18 : 0 ≤ x10_1
         ·rw [if_pos c18] at H
          have c18b0 : decide (0 ≤ x10_1) = true := decide_eq_true c18
          clear c18
          by_cases c19 : x10_1 < (l1.length : Int)
          ·rw [if_pos c19] at H
           have c19b0 : decide (x10_1 < (l1.length : Int)) = true := decide_eq_true c19
           clear c19
           by_cases c20 : x12_3 < ((rd_L6 l1 x10_1).length : Int)
           ·rw [if_pos c20] at H
            have c20b0 : decide (x12_3 < ((rd_L6 l1 x10_1).length : Int)) = true := decide_eq_true c20
            clear c20
            by_cases c21 : x12_3 < 200
            ·rw [if_pos c21] at H
             have c21b0 : decide (x12_3 < 200) = true := decide_eq_true c21
             clear c21
             by_cases c22 : 0 ≤ x12_3
             ·rw [if_pos c22] at H
              have c22b0 : decide (0 ≤ x12_3) = true := decide_eq_true c22
              clear c22
              obtain ⟨ji23, hji23⟩ : ∃ j_ : Int, (Int.tmod (Go.bits .and .u8 (rd (rd_L6 l1 x10_1) x12_3) 255) 10) = j_ := ⟨_, rfl⟩
              replace H : (if 0 ≤ (ji23) then (if (ji23) < 10 then ((some (([bt (⟨#[97, 98, 32, 48, 49, 35, 61, 45, 46, 58]⟩ : ByteArray) (ji23)] : List Int) : List Int)).bind fun y243 => (if x11_3.size + (strOfNums y243).size ≤ 9223372036854775807 then (glebelaw10_DnslBack.l1 k3 l1 a2 t229 x10_1 (x11_3 ++ (strOfNums y243)) (wrap64 (x12_3 + 1)) (⟨#[107, 101, 121]⟩ : ByteArray) x240001_1 0) else (none))) else (none)) else (none)) = some r := by first | (rw [hji23] at H; exact H) | (simp only [hji23] at H ⊢; exact H)
              by_cases c24 : 0 ≤ (ji23)
              ·rw [if_pos c24] at H
               have c24b0 : decide (0 ≤ (ji23)) = true := decide_eq_true c24
               clear c24
               by_cases c25 : (ji23) < 10
               ·rw [if_pos c25] at H
                have c25b0 : decide ((ji23) < 10) = true := decide_eq_true c25
                clear c25
                obtain ⟨y243, hy243⟩ : ∃ y_ : List Int, y_ = (([bt (⟨#[97, 98, 32, 48, 49, 35, 61, 45, 46, 58]⟩ : ByteArray) (ji23)] : List Int)) := ⟨_, rfl⟩
                replace H : (if x11_3.size + (strOfNums y243).size ≤ 9223372036854775807 then (glebelaw10_DnslBack.l1 k3 l1 a2 t229 x10_1 (x11_3 ++ (strOfNums y243)) (wrap64 (x12_3 + 1)) (⟨#[107, 101, 121]⟩ : ByteArray) x240001_1 0) else (none)) = some r := by first | (rw [hy243]; with_reducible exact H) | (have H2_ := (Option.bind_some _ _).symm.trans H; rw [hy243]; with_reducible exact H2_) | (have H2_ := (Option.bind_some _ _).symm.trans H; with_reducible exact H2_) | with_reducible exact H | (rw [hy243]; exact H) | exact H
                have Ny243 := Aside0.mk hy243
                clear hy243
                by_cases c27 : x11_3.size + (strOfNums y243).size ≤ 9223372036854775807
                ·rw [if_pos c27] at H
                 have c27b0 := eq_true c27
                 have c27b1 : decide (x11_3.size + (strOfNums y243).size ≤ 9223372036854775807) = true := decide_eq_true c27
                 try have c27b2 : (9223372036854775807 < x11_3.size + (strOfNums y243).size) = False := eq_false (Nat.not_lt.2 c27)
                 have H' := Aside0.mk H
                 clear H
                 have p240 : 0 ≤ (x10_1 : Int) := of_decide_eq_true (by first | (with_reducible assumption) | assumption)
                 have q240 : x10_1 < (l1.length : Int) := of_decide_eq_true (by first | (with_reducible assumption) | assumption)
                 obtain ⟨ad240, A240_0, c240_0, e240, hx240_0, hl240_0, hi240_0⟩ := at_L6 HR1.out x10_1 p240 q240
                 cases e240
                 replace hx240_0 := (HB.out.cell (World.block_lt_of_cell? w _ hx240_0)).trans hx240_0
                 have HR240_0 := Aside0.mk hi240_0
                 have HC240_0 := Aside0.mk hl240_0
                 clear hi240_0 hl240_0
                 replace p240 := eq_true p240
                 replace q240 := eq_true q240
                 have p241 : 0 ≤ (x10_1 : Int) := of_decide_eq_true (by first | (with_reducible assumption) | assumption)
                 have q241 : x10_1 < (l1.length : Int) := of_decide_eq_true (by first | (with_reducible assumption) | assumption)
                 obtain ⟨ad241, A241_0, c241_0, e241, hx241_0, hl241_0, hi241_0⟩ := at_L6 HR1.out x10_1 p241 q241
                 obtain rfl : ad240 = ad241 := (by injection e241)
                 replace hx241_0 := (HB.out.cell (World.block_lt_of_cell? w _ hx241_0)).trans hx241_0
                 have HR241_0 := Aside0.mk hi241_0
                 have HC241_0 := Aside0.mk hl241_0
                 clear hi241_0 hl241_0
                 replace p241 := eq_true p241
                 replace q241 := eq_true q241
                 have ea_ := Option.some.inj (hx240_0.symm.trans hx241_0)
                 injection ea_ with ea_ en_ ec_
                 subst ea_
                 subst ec_
                 clear en_
                 have p242 : 0 ≤ (x12_3 : Int) := of_decide_eq_true (by first | (with_reducible assumption) | assumption)
                 have q242 : x12_3 < ((rd_L6 l1 x10_1).length : Int) := of_decide_eq_true (by first | (with_reducible assumption) | assumption)
                 obtain ⟨ad242, e242, hx242_0⟩ := Kd.at_int HR241_0.out x12_3 p242 q242
                 cases e242
                 replace hx242_0 := (HB.out.cell (World.block_lt_of_cell? w _ hx242_0)).trans hx242_0
                 replace p242 := eq_true p242
                 replace q242 := eq_true q242
                 have p26 : 0 ≤ ((ji23) : Int) := of_decide_eq_true (by first | (with_reducible assumption) | assumption)
                 have q26 : (ji23) < (10 : Int) := of_decide_eq_true (by first | (with_reducible assumption) | assumption)
                 have hx26 := bt_at (⟨#[97, 98, 32, 48, 49, 35, 61, 45, 46, 58]⟩ : ByteArray) (ji23)
                 replace p26 := eq_true p26
                 replace q26 := eq_true q26
                 go_wp2_with (first | ((with_reducible refine gate_dst (N := 82) rfl ?_); (try (refine gate_guard (by rfl) ?_; dsimp only)); refine Kd.R_lit (Kd.int .u8) _ 5 ?hg (N := 82) ?hd (xs := ([bt (⟨#[97, 98, 32, 48, 49, 35, 61, 45, 46, 58]⟩ : ByteArray) (ji23)] : List Int)) (inner := [.int .u8 (bt (⟨#[97, 98, 32, 48, 49, 35, 61, 45, 46, 58]⟩ : ByteArray) (ji23))]) (ok := fun _ => True) (okp := fun _ => True) ?hr ?hp (fun _ hk => hk) trivial (Below.refl _ _) (Nat.le_refl _) (by simp) ?_; (case hd => rfl); (case hg => rfl); (case hr => first | (go_simp; done) | (go_simp; rfl)); (case hp => exact (Reps.one (show Kd.M (Kd.int .u8) _ _ _ (bt (⟨#[97, 98, 32, 48, 49, 35, 61, 45, 46, 58]⟩ : ByteArray) (ji23)) [.int .u8 (bt (⟨#[97, 98, 32, 48, 49, 35, 61, 45, 46, 58]⟩ : ByteArray) (ji23))] from rfl) (Reps.none _ _))); intro v244 w28 ho29 hb hg_ hnew_; clear hg_ hnew_; (first | rw [← Ny243.out] at ho29 | (simp only [Int.reduceToNat] at ho29; rw [← Ny243.out] at ho29)); have n0_ := Aside0.mk (Kd.S_below (by (with_reducible repeat (first | apply Kd.S_alloc | apply Kd.S_drewN | apply Kd.S_drew)); exact HO_7.out) hb); have n1_ := Aside0.mk (Kd.R_below (by (with_reducible repeat (first | apply Kd.R_alloc | apply Kd.R_drewN | apply Kd.R_drew)); exact HO_240001.out) hb); have n2_ := Aside0.mk (Kd.R_lower ho29 (below_size (by repeat (first | (with_reducible first | exact HB.out | apply below_alloc | apply pw_below_drewN | apply below_drew1 | refine below_set ?_ GE234.out | refine below_set ?_ GE239.out) | exact HB.out)))); have n3_ := Aside0.mk (blk_below (g := gb234) (o := .cells #[.int .i64 t232, .int .i64 t233] 26 (0, 0)) (by (with_reducible repeat (first | refine blk_drewN ?_ _ | refine blk_drew ?_ | refine blk_alloc ?_ _)); exact BK234.out) hb); have n4_ := Aside0.mk (blk_below (g := gb239) (o := .cells #[.string (⟨#[107, 101, 121]⟩ : ByteArray), u240001, .int .i64 0] 34 (0, 0)) (by (with_reducible repeat (first | refine blk_drewN ?_ _ | refine blk_drew ?_ | refine blk_alloc ?_ _)); exact BK239.out) hb); have n5_ := Aside0.mk (below_step (by repeat (first | (with_reducible first | exact HB.out | apply below_alloc | apply pw_below_drewN | apply below_drew1 | refine below_set ?_ GE234.out | refine below_set ?_ GE239.out) | exact HB.out)) hb); clear HO_7; clear HO_240001; clear BK234; clear BK239; clear HB; have HO_7 := n0_; have HO_240001 := n1_; have HO245 := n2_; have BK234 := n3_; have BK239 := n4_; have HB := n5_; clear n0_ n1_ n2_ n3_ n4_ n5_; clear hb ho29; have hcv30 := own_string (P := Try.prog) Try.underlying29 Try.underlying5 Try.underlying9 (Kd.own_of_R HO245.out)))
                 go_roundg k3
                 case measure => have := HK1.out; have := HJ14.out; have := HK3.out; omega
                 case rel => exact ⟨(x11_3 ++ (strOfNums y243)), (wrap64 (x12_3 + 1)), (by first | rfl | (simp only [i64_w]; done) | (simp; done) | (simp [*]; done)), (by first | rfl | (simp only [i64_w]; done) | (simp; done) | (simp [*]; done)), H', ⟨by have := HK1.out; have := HJ14.out; have := HK3.out; omega⟩, ⟨by (with_reducible repeat (first | apply Kd.S_alloc | apply Kd.S_drewN | apply Kd.S_drew)); exact HO_7.out⟩, ⟨by (with_reducible repeat (first | apply Kd.R_alloc | apply Kd.R_drewN | apply Kd.R_drew)); exact HO_240001.out⟩, ⟨by (with_reducible repeat (first | refine blk_drewN ?_ _ | refine blk_drew ?_ | refine blk_alloc ?_ _)); exact BK234.out⟩, ⟨by (with_reducible repeat (first | refine blk_drewN ?_ _ | refine blk_drew ?_ | refine blk_alloc ?_ _)); exact BK239.out⟩, ⟨by repeat (first | (with_reducible first | exact HB.out | apply below_alloc | apply pw_below_drewN | apply below_drew1 | refine below_set ?_ GE234.out | refine below_set ?_ GE239.out) | exact HB.out)⟩⟩
                ·rw [if_neg c27] at H
                 exact absurd H (by simp)
               ·rw [if_neg c25] at H
                exact absurd H (by simp)
              ·rw [if_neg c24] at H
               exact absurd H (by simp)
             ·rw [if_neg c22] at H
              exact absurd H (by simp)
            ·rw [if_neg c21] at H
             have c21b0 : decide (x12_3 < 200) = false := decide_eq_false c21
             clear c21
             by_cases c31 : x240001_1.length < 4398046511104
             ·rw [if_pos c31] at H
              have LMc31 := Aside0.mk c31
              clear c31
              obtain ⟨y246, hy246⟩ : ∃ y_ : List (S36), y_ = (x240001_1 ++ [(⟨6, x11_3, 0⟩ : S36)]) := ⟨_, rfl⟩
              replace H : (glebelaw10_DnslBack.l0 k3 l1 a2 t229 (wrap64 (x10_1 + 1)) (⟨#[107, 101, 121]⟩ : ByteArray) y246 0) = some r := by first | (rw [hy246]; with_reducible exact H) | (have H2_ := (Option.bind_some _ _).symm.trans H; rw [hy246]; with_reducible exact H2_) | (have H2_ := (Option.bind_some _ _).symm.trans H; with_reducible exact H2_) | with_reducible exact H | (rw [hy246]; exact H) | exact H
              have Ny246 := Aside0.mk hy246
              clear hy246
              have H' := Aside0.mk H
              clear H
              have p240 : 0 ≤ (x10_1 : Int) := of_decide_eq_true (by first | (with_reducible assumption) | assumption)
              have q240 : x10_1 < (l1.length : Int) := of_decide_eq_true (by first | (with_reducible assumption) | assumption)
              obtain ⟨ad240, A240_0, c240_0, e240, hx240_0, hl240_0, hi240_0⟩ := at_L6 HR1.out x10_1 p240 q240
              cases e240
              replace hx240_0 := (HB.out.cell (World.block_lt_of_cell? w _ hx240_0)).trans hx240_0
              have HR240_0 := Aside0.mk hi240_0
              have HC240_0 := Aside0.mk hl240_0
              clear hi240_0 hl240_0
              replace p240 := eq_true p240
              replace q240 := eq_true q240
              have hnb32 := NB239_234.out
              have hnc32 := NB234_239.out
              have hcz33_0 : wr.cell? ⟨gb239, 0, none⟩ = some (.string (⟨#[107, 101, 121]⟩ : ByteArray)) := (blk_cell BK239.out 0).trans rfl
              have hcz33_1 : wr.cell? ⟨gb239, 1, none⟩ = some (u240001) := (blk_cell BK239.out 1).trans rfl
              have hcz33_2 : wr.cell? ⟨gb239, 2, none⟩ = some (.int .i64 0) := (blk_cell BK239.out 2).trans rfl
              have hfz33_0 := blk_frozen BK239.out 0
              have hfz33_1 := blk_frozen BK239.out 1
              have hfz33_2 := blk_frozen BK239.out 2
              go_wp2_with (first | ((with_reducible refine gate_builtin (b := .append) (xs := #[.tmp 86, .tmp 89]) rfl ?_); (try (refine gate_guard (by rfl) ?_; dsimp only)); at_builtin; refine Kd.R_append k36 (w0 := w) w.heap.size rfl (.tmp 86) (.tmp 89) 32 36 (.agg #[(.int .i64 0), (.string ⟨#[]⟩), (.int .i64 0)]) 32 rfl Try.underlying32 info36 rfl (by decide) (by omega) u240001 x240001_1 (⟨6, x11_3, 0⟩ : S36) [.int .i64 6, .string x11_3, .int .i64 0] (fun _ => True) (fun _ => False) rfl rfl ?aP (fun _ hk => hk.elim) ?aF ?aO ?aB ?aS ?aL ?_; (case aP => exact k36_mkM _ _ _ (⟨6, x11_3, 0⟩ : S36)); (case aB => exact (by repeat (first | (with_reducible first | exact HB.out | apply below_alloc | apply pw_below_drewN | apply below_drew1 | refine below_set ?_ GE234.out | refine below_set ?_ GE239.out) | exact HB.out))); (case aF => exact (fun _ _ => trivial)); (case aO => exact (by (with_reducible repeat (first | apply Kd.R_alloc | apply Kd.R_drewN | apply Kd.R_drew)); exact HO_240001.out)); (case aS => exact (below_size (by repeat (first | (with_reducible first | exact HB.out | apply below_alloc | apply pw_below_drewN | apply below_drew1 | refine below_set ?_ GE234.out | refine below_set ?_ GE239.out) | exact HB.out)))); (case aL => have := LMc31.out; omega); intro v247 w34 ho hb hg hat; rw [← Ny246.out] at ho; have n0_ := Aside0.mk (Kd.S_after (ok := (fun k_ => k_ ≠ gb239)) (by (with_reducible repeat (first | apply Kd.S_alloc | apply Kd.S_drewN | apply Kd.S_drew)); exact Kd.S_mono HO_7.out (fun _ hk => ⟨hk.2, hk.1⟩)) hg hat); have n1_ := Aside0.mk (blk_grown (g := gb234) (o := .cells #[.int .i64 t232, .int .i64 t233] 26 (0, 0)) (by (with_reducible repeat (first | refine blk_drewN ?_ _ | refine blk_drew ?_ | refine blk_alloc ?_ _)); exact BK234.out) hg (Kd.R_ne HO_240001.out BK234.out (by decide))); have n2_ := Aside0.mk (blk_grown (g := gb239) (o := .cells #[.string (⟨#[107, 101, 121]⟩ : ByteArray), u240001, .int .i64 0] 34 (0, 0)) (by (with_reducible repeat (first | refine blk_drewN ?_ _ | refine blk_drew ?_ | refine blk_alloc ?_ _)); exact BK239.out) hg (Kd.R_ne HO_240001.out BK239.out (by decide))); have n3_ := Aside0.mk (hb); have n4_ := Aside0.mk (ho); clear HO_7; clear BK234; clear BK239; clear HB; clear HO_240001; have HO_7 := n0_; have BK234 := n1_; have BK239 := n2_; have HB := n3_; have HO248 := n4_; clear n0_ n1_ n2_ n3_ n4_; clear ho hb hg hat; obtain ⟨Ao35, co35, eo35⟩ := Kd.R_slice HO248.out; subst eo35; have hcz36_0 : w34.cell? ⟨gb239, 0, none⟩ = some (.string (⟨#[107, 101, 121]⟩ : ByteArray)) := (blk_cell BK239.out 0).trans rfl; have hcz36_1 : w34.cell? ⟨gb239, 1, none⟩ = some (u240001) := (blk_cell BK239.out 1).trans rfl; have hcz36_2 : w34.cell? ⟨gb239, 2, none⟩ = some (.int .i64 0) := (blk_cell BK239.out 2).trans rfl; have hfz36_0 := blk_frozen BK239.out 0; have hfz36_1 := blk_frozen BK239.out 1; have hfz36_2 := blk_frozen BK239.out 2))
              go_roundg k3
              case measure => have := HK1.out; have := HJ14.out; have := HK3.out; omega
              case rel => exact ⟨(wrap64 (x10_1 + 1)), (y246), (.slice Ao35 y246.length co35), (by first | rfl | (simp only [i64_w]; done) | (simp; done) | (simp [*]; done)), H', ⟨by have := HK1.out; have := HJ14.out; have := HK3.out; omega⟩, ⟨by (with_reducible repeat (first | apply Kd.S_alloc | apply Kd.S_drewN | apply Kd.S_drew)); exact Kd.S_mono (Kd.S_far (p := ⟨gb239, 1, none⟩) (Kd.S_mono HO_7.out (fun k_ hk => (⟨hk, hk.1⟩ : _ ∧ k_ ≠ gb239))) (fun _ hk => hk.2) (.slice Ao35 y246.length co35)) (fun _ hk => ⟨hk.1.2, hk.1.1⟩)⟩, ⟨by (with_reducible repeat (first | apply Kd.R_alloc | apply Kd.R_drewN | apply Kd.R_drew)); exact Kd.R_mono (Kd.R_far (p := ⟨gb239, 1, none⟩) (Kd.R_types HO248.out BK239.out (by decide)) (fun _ hk => hk.2) (.slice Ao35 y246.length co35)) (fun _ hk => trivial)⟩, ⟨by (with_reducible repeat (first | refine blk_drewN ?_ _ | refine blk_drew ?_ | refine blk_alloc ?_ _)); refine blk_far ?_ NB234_239.out _; (with_reducible repeat (first | refine blk_drewN ?_ _ | refine blk_drew ?_ | refine blk_alloc ?_ _)); exact BK234.out⟩, ⟨by (with_reducible repeat (first | refine blk_drewN ?_ _ | refine blk_drew ?_ | refine blk_alloc ?_ _)); refine blk_put (cs := #[.string (⟨#[107, 101, 121]⟩ : ByteArray), u240001, .int .i64 0]) ?_ 1 _ rfl; (with_reducible repeat (first | refine blk_drewN ?_ _ | refine blk_drew ?_ | refine blk_alloc ?_ _)); exact BK239.out⟩, ⟨by repeat (first | (with_reducible first | exact HB.out | apply below_alloc | apply pw_below_drewN | apply below_drew1 | refine below_set ?_ GE234.out | refine below_set ?_ GE239.out) | exact HB.out)⟩⟩
             ·rw [if_neg c31] at H
              exact absurd H (by simp)
           ·rw [if_neg c20] at H
            have c20b0 : decide (x12_3 < ((rd_L6 l1 x10_1).length : Int)) = false := decide_eq_false c20
            clear c20
            by_cases c37 : x240001_1.length < 4398046511104
            ·rw [if_pos c37] at H
             have LMc37 := Aside0.mk c37
             clear c37
             obtain ⟨y249, hy249⟩ : ∃ y_ : List (S36), y_ = (x240001_1 ++ [(⟨6, x11_3, 0⟩ : S36)]) := ⟨_, rfl⟩
             replace H : (glebelaw10_DnslBack.l0 k3 l1 a2 t229 (wrap64 (x10_1 + 1)) (⟨#[107, 101, 121]⟩ : ByteArray) y249 0) = some r := by first | (rw [hy249]; with_reducible exact H) | (have H2_ := (Option.bind_some _ _).symm.trans H; rw [hy249]; with_reducible exact H2_) | (have H2_ := (Option.bind_some _ _).symm.trans H; with_reducible exact H2_) | with_reducible exact H | (rw [hy249]; exact H) | exact H
             have Ny249 := Aside0.mk hy249
             clear hy249
             have H' := Aside0.mk H
             clear H
             have p240 : 0 ≤ (x10_1 : Int) := of_decide_eq_true (by first | (with_reducible assumption) | assumption)
             have q240 : x10_1 < (l1.length : Int) := of_decide_eq_true (by first | (with_reducible assumption) | assumption)
             obtain ⟨ad240, A240_0, c240_0, e240, hx240_0, hl240_0, hi240_0⟩ := at_L6 HR1.out x10_1 p240 q240
             cases e240
             replace hx240_0 := (HB.out.cell (World.block_lt_of_cell? w _ hx240_0)).trans hx240_0
             have HR240_0 := Aside0.mk hi240_0
             have HC240_0 := Aside0.mk hl240_0
             clear hi240_0 hl240_0
             replace p240 := eq_true p240
             replace q240 := eq_true q240
             have hnb38 := NB239_234.out
             have hnc38 := NB234_239.out
             have hcz39_0 : wr.cell? ⟨gb239, 0, none⟩ = some (.string (⟨#[107, 101, 121]⟩ : ByteArray)) := (blk_cell BK239.out 0).trans rfl
             have hcz39_1 : wr.cell? ⟨gb239, 1, none⟩ = some (u240001) := (blk_cell BK239.out 1).trans rfl
             have hcz39_2 : wr.cell? ⟨gb239, 2, none⟩ = some (.int .i64 0) := (blk_cell BK239.out 2).trans rfl
             have hfz39_0 := blk_frozen BK239.out 0
             have hfz39_1 := blk_frozen BK239.out 1
             have hfz39_2 := blk_frozen BK239.out 2
             go_wp2_with (first | ((with_reducible refine gate_builtin (b := .append) (xs := #[.tmp 86, .tmp 89]) rfl ?_); (try (refine gate_guard (by rfl) ?_; dsimp only)); at_builtin; refine Kd.R_append k36 (w0 := w) w.heap.size rfl (.tmp 86) (.tmp 89) 32 36 (.agg #[(.int .i64 0), (.string ⟨#[]⟩), (.int .i64 0)]) 32 rfl Try.underlying32 info36 rfl (by decide) (by omega) u240001 x240001_1 (⟨6, x11_3, 0⟩ : S36) [.int .i64 6, .string x11_3, .int .i64 0] (fun _ => True) (fun _ => False) rfl rfl ?aP (fun _ hk => hk.elim) ?aF ?aO ?aB ?aS ?aL ?_; (case aP => exact k36_mkM _ _ _ (⟨6, x11_3, 0⟩ : S36)); (case aB => exact (by repeat (first | (with_reducible first | exact HB.out | apply below_alloc | apply pw_below_drewN | apply below_drew1 | refine below_set ?_ GE234.out | refine below_set ?_ GE239.out) | exact HB.out))); (case aF => exact (fun _ _ => trivial)); (case aO => exact (by (with_reducible repeat (first | apply Kd.R_alloc | apply Kd.R_drewN | apply Kd.R_drew)); exact HO_240001.out)); (case aS => exact (below_size (by repeat (first | (with_reducible first | exact HB.out | apply below_alloc | apply pw_below_drewN | apply below_drew1 | refine below_set ?_ GE234.out | refine below_set ?_ GE239.out) | exact HB.out)))); (case aL => have := LMc37.out; omega); intro v250 w40 ho hb hg hat; rw [← Ny249.out] at ho; have n0_ := Aside0.mk (Kd.S_after (ok := (fun k_ => k_ ≠ gb239)) (by (with_reducible repeat (first | apply Kd.S_alloc | apply Kd.S_drewN | apply Kd.S_drew)); exact Kd.S_mono HO_7.out (fun _ hk => ⟨hk.2, hk.1⟩)) hg hat); have n1_ := Aside0.mk (blk_grown (g := gb234) (o := .cells #[.int .i64 t232, .int .i64 t233] 26 (0, 0)) (by (with_reducible repeat (first | refine blk_drewN ?_ _ | refine blk_drew ?_ | refine blk_alloc ?_ _)); exact BK234.out) hg (Kd.R_ne HO_240001.out BK234.out (by decide))); have n2_ := Aside0.mk (blk_grown (g := gb239) (o := .cells #[.string (⟨#[107, 101, 121]⟩ : ByteArray), u240001, .int .i64 0] 34 (0, 0)) (by (with_reducible repeat (first | refine blk_drewN ?_ _ | refine blk_drew ?_ | refine blk_alloc ?_ _)); exact BK239.out) hg (Kd.R_ne HO_240001.out BK239.out (by decide))); have n3_ := Aside0.mk (hb); have n4_ := Aside0.mk (ho); clear HO_7; clear BK234; clear BK239; clear HB; clear HO_240001; have HO_7 := n0_; have BK234 := n1_; have BK239 := n2_; have HB := n3_; have HO251 := n4_; clear n0_ n1_ n2_ n3_ n4_; clear ho hb hg hat; obtain ⟨Ao41, co41, eo41⟩ := Kd.R_slice HO251.out; subst eo41; have hcz42_0 : w40.cell? ⟨gb239, 0, none⟩ = some (.string (⟨#[107, 101, 121]⟩ : ByteArray)) := (blk_cell BK239.out 0).trans rfl; have hcz42_1 : w40.cell? ⟨gb239, 1, none⟩ = some (u240001) := (blk_cell BK239.out 1).trans rfl; have hcz42_2 : w40.cell? ⟨gb239, 2, none⟩ = some (.int .i64 0) := (blk_cell BK239.out 2).trans rfl; have hfz42_0 := blk_frozen BK239.out 0; have hfz42_1 := blk_frozen BK239.out 1; have hfz42_2 := blk_frozen BK239.out 2))
             go_roundg k3
             case measure => have := HK1.out; have := HJ14.out; have := HK3.out; omega
             case rel => exact ⟨(wrap64 (x10_1 + 1)), (y249), (.slice Ao41 y249.length co41), (by first | rfl | (simp only [i64_w]; done) | (simp; done) | (simp [*]; done)), H', ⟨by have := HK1.out; have := HJ14.out; have := HK3.out; omega⟩, ⟨by (with_reducible repeat (first | apply Kd.S_alloc | apply Kd.S_drewN | apply Kd.S_drew)); exact Kd.S_mono (Kd.S_far (p := ⟨gb239, 1, none⟩) (Kd.S_mono HO_7.out (fun k_ hk => (⟨hk, hk.1⟩ : _ ∧ k_ ≠ gb239))) (fun _ hk => hk.2) (.slice Ao41 y249.length co41)) (fun _ hk => ⟨hk.1.2, hk.1.1⟩)⟩, ⟨by (with_reducible repeat (first | apply Kd.R_alloc | apply Kd.R_drewN | apply Kd.R_drew)); exact Kd.R_mono (Kd.R_far (p := ⟨gb239, 1, none⟩) (Kd.R_types HO251.out BK239.out (by decide)) (fun _ hk => hk.2) (.slice Ao41 y249.length co41)) (fun _ hk => trivial)⟩, ⟨by (with_reducible repeat (first | refine blk_drewN ?_ _ | refine blk_drew ?_ | refine blk_alloc ?_ _)); refine blk_far ?_ NB234_239.out _; (with_reducible repeat (first | refine blk_drewN ?_ _ | refine blk_drew ?_ | refine blk_alloc ?_ _)); exact BK234.out⟩, ⟨by (with_reducible repeat (first | refine blk_drewN ?_ _ | refine blk_drew ?_ | refine blk_alloc ?_ _)); refine blk_put (cs := #[.string (⟨#[107, 101, 121]⟩ : ByteArray), u240001, .int .i64 0]) ?_ 1 _ rfl; (with_reducible repeat (first | refine blk_drewN ?_ _ | refine blk_drew ?_ | refine blk_alloc ?_ _)); exact BK239.out⟩, ⟨by repeat (first | (with_reducible first | exact HB.out | apply below_alloc | apply pw_below_drewN | apply below_drew1 | refine below_set ?_ GE234.out | refine below_set ?_ GE239.out) | exact HB.out)⟩⟩
            ·rw [if_neg c37] at H
             exact absurd H (by simp)
          ·rw [if_neg c19] at H
           exact absurd H (by simp)
         ·rw [if_neg c18] at H
          exact absurd H (by simp)
      ·replace c17 := Bool.eq_false_iff.mpr c17
       subst c17
       have H1 : (if (x240001_1.length : Int) > 0 then (if t229.length < 2932031007402 then (glebelaw10_DnslBack.j3 kj14 a2 (t229 ++ [(⟨(⟨#[107, 101, 121]⟩ : ByteArray), x240001_1, 0⟩ : S34)])) else (none)) else (glebelaw10_DnslBack.j3 kj14 a2 t229)) = some r := by rw [if_neg (show ¬ (false = true) by decide)] at H; exact H
       clear H
       have H := H1
       clear H1
       have HC43 := Aside0.mk H
       clear H
       have hnb44 := NB239_234.out
       have hnc44 := NB234_239.out
       have hcz45_0 : wc.cell? ⟨gb239, 0, none⟩ = some (.string (⟨#[107, 101, 121]⟩ : ByteArray)) := (blk_cell BK239.out 0).trans rfl
       have hcz45_1 : wc.cell? ⟨gb239, 1, none⟩ = some (u240001) := (blk_cell BK239.out 1).trans rfl
       have hcz45_2 : wc.cell? ⟨gb239, 2, none⟩ = some (.int .i64 0) := (blk_cell BK239.out 2).trans rfl
       have hfz45_0 := blk_frozen BK239.out 0
       have hfz45_1 := blk_frozen BK239.out 1
       have hfz45_2 := blk_frozen BK239.out 2
       obtain ⟨Ao46, co46, eo46⟩ := Kd.R_slice HO_240001.out
       subst eo46
       go_upto_if 95 with (fail)
       go_cut [7] (fun v7 wc => ∃ (kq : Nat) (x7_42 : List (S34)), Aside0 (glebelaw10_DnslBack.j3 kq a2 x7_42 = some r) ∧ Aside0 (kq ≤ kj14) ∧ Aside0 (Kd.S k34 34 wc w.heap.size (fun _ => True) v7 x7_42) ∧ Aside0 (Below w.heap.size w wc))
       case first =>
        have H := HC43.out
        clear HC43
        by_cases c47 : (x240001_1.length : Int) > 0
        ·rw [if_pos c47] at H
         have c47b0 : decide (0 < (x240001_1.length : Int)) = true := decide_eq_true c47
         have c47b1 : decide (0 < x240001_1.length) = true := decide_eq_true (by omega)
         clear c47
         (first | rw [c47b0] | (simp only [i64_w, i32_w]; rw [c47b0]) | rw [c47b1] | skip)
         by_cases c48 : t229.length < 2932031007402
         ·rw [if_pos c48] at H
          have LMc48 := Aside0.mk c48
          clear c48
          obtain ⟨y252, hy252⟩ : ∃ y_ : List (S34), y_ = (t229 ++ [(⟨(⟨#[107, 101, 121]⟩ : ByteArray), x240001_1, 0⟩ : S34)]) := ⟨_, rfl⟩
          replace H : (glebelaw10_DnslBack.j3 kj14 a2 y252) = some r := by first | (rw [hy252]; with_reducible exact H) | (have H2_ := (Option.bind_some _ _).symm.trans H; rw [hy252]; with_reducible exact H2_) | (have H2_ := (Option.bind_some _ _).symm.trans H; with_reducible exact H2_) | with_reducible exact H | (rw [hy252]; exact H) | exact H
          have Ny252 := Aside0.mk hy252
          clear hy252
          have H' := Aside0.mk H
          clear H
          have hnb49 := NB239_234.out
          have hnc49 := NB234_239.out
          have hcz50_0 : wc.cell? ⟨gb239, 0, none⟩ = some (.string (⟨#[107, 101, 121]⟩ : ByteArray)) := (blk_cell BK239.out 0).trans rfl
          have hcz50_1 : wc.cell? ⟨gb239, 1, none⟩ = some (.slice Ao46 x240001_1.length co46) := (blk_cell BK239.out 1).trans rfl
          have hcz50_2 : wc.cell? ⟨gb239, 2, none⟩ = some (.int .i64 0) := (blk_cell BK239.out 2).trans rfl
          have hfz50_0 := blk_frozen BK239.out 0
          have hfz50_1 := blk_frozen BK239.out 1
          have hfz50_2 := blk_frozen BK239.out 2
          go_wp2_with (first | ((with_reducible refine gate_builtin (b := .append) (xs := #[.tmp 96, .tmp 98]) rfl ?_); (try (refine gate_guard (by rfl) ?_; dsimp only)); at_builtin; refine Kd.S_append k34 (w0 := w) w.heap.size rfl (.tmp 96) (.tmp 98) 24 34 (.agg #[(.string ⟨#[]⟩), (.slice none 0 0), (.int .i64 0)]) 48 rfl Try.underlying24 info34 rfl (by decide) (by omega) v230 t229 (⟨(⟨#[107, 101, 121]⟩ : ByteArray), x240001_1, 0⟩ : S34) [.string (⟨#[107, 101, 121]⟩ : ByteArray), .slice Ao46 x240001_1.length co46, .int .i64 0] (fun k_ => k_ ≠ gb239) (fun k_ => some k_ = (.slice Ao46 x240001_1.length co46 : Value).ownBlock) rfl rfl ?aP (fun k_ hk_ => ((Kd.R_mono (ok' := fun k_ => ((fun k_ => k_ ≠ gb239)) k_ ∧ some k_ ≠ (v230 : Value).ownBlock) (Kd.R_types (Kd.R_apart' (HO_240001.out) (Kd.S_typed HO_7.out) (by decide)) BK239.out (by decide)) (fun k_ hk => ⟨hk.2, hk.1.2⟩))).1 k_ hk_.symm) ?aF ?aO ?aB ?aS ?aL ?_; (case aP => exact k34_mkM _ _ _ (⟨(⟨#[107, 101, 121]⟩ : ByteArray), x240001_1, 0⟩ : S34) (Kd.R_mono (Kd.R_tight rfl (Kd.R_mono (ok' := fun k_ => ((fun k_ => k_ ≠ gb239)) k_ ∧ some k_ ≠ (v230 : Value).ownBlock) (Kd.R_types (Kd.R_apart' (HO_240001.out) (Kd.S_typed HO_7.out) (by decide)) BK239.out (by decide)) (fun k_ hk => ⟨hk.2, hk.1.2⟩))) (fun _ h_ => h_))); (case aB => exact (by repeat (first | (with_reducible first | exact HB.out | apply below_alloc | apply pw_below_drewN | apply below_drew1 | refine below_set ?_ GE234.out | refine below_set ?_ GE239.out) | exact HB.out))); (case aF => exact (fun k_ hk => Kd.freshB (g := gb239) (o := .cells #[.string (⟨#[107, 101, 121]⟩ : ByteArray), .slice Ao46 x240001_1.length co46, .int .i64 0] 34 (0, 0)) (by (with_reducible repeat (first | refine blk_drewN ?_ _ | refine blk_drew ?_ | refine blk_alloc ?_ _)); exact BK239.out) k_ hk)); (case aO => exact (by (with_reducible repeat (first | apply Kd.S_alloc | apply Kd.S_drewN | apply Kd.S_drew)); exact Kd.S_mono HO_7.out (fun k_ hk => ⟨hk.2, fun e_ => hk.1 e_⟩))); (case aS => exact (below_size (by repeat (first | (with_reducible first | exact HB.out | apply below_alloc | apply pw_below_drewN | apply below_drew1 | refine below_set ?_ GE234.out | refine below_set ?_ GE239.out) | exact HB.out)))); (case aL => have := LMc48.out; omega); intro v253 w51 ho hb hg hat; rw [← Ny252.out] at ho; have n0_ := Aside0.mk (blk_grown (g := gb234) (o := .cells #[.int .i64 t232, .int .i64 t233] 26 (0, 0)) (by (with_reducible repeat (first | refine blk_drewN ?_ _ | refine blk_drew ?_ | refine blk_alloc ?_ _)); exact BK234.out) hg (Kd.S_ne HO_7.out BK234.out (by decide))); have n1_ := Aside0.mk (blk_grown (g := gb239) (o := .cells #[.string (⟨#[107, 101, 121]⟩ : ByteArray), .slice Ao46 x240001_1.length co46, .int .i64 0] 34 (0, 0)) (by (with_reducible repeat (first | refine blk_drewN ?_ _ | refine blk_drew ?_ | refine blk_alloc ?_ _)); exact BK239.out) hg (Kd.S_away HO_7.out (fun _ hk => hk.2))); have n2_ := Aside0.mk (hb); have n3_ := Aside0.mk (ho); clear BK234; clear BK239; clear HB; clear HO_7; clear HO_240001; have BK234 := n0_; have BK239 := n1_; have HB := n2_; have HO254 := n3_; clear n0_ n1_ n2_ n3_; clear ho hb hg hat))
          go_meet
          case rel => exact ⟨_, (y252), H', ⟨by have := HK1.out; have := HJ14.out; first | omega | exact Nat.le_refl _⟩, ⟨by (with_reducible repeat (first | apply Kd.S_alloc | apply Kd.S_drewN | apply Kd.S_drew)); exact Kd.S_mono HO254.out (fun _ hk => trivial)⟩, ⟨by repeat (first | (with_reducible first | exact HB.out | apply below_alloc | apply pw_below_drewN | apply below_drew1 | refine below_set ?_ GE234.out | refine below_set ?_ GE239.out) | exact HB.out)⟩⟩
         ·rw [if_neg c48] at H
          exact absurd H (by simp)
        ·rw [if_neg c47] at H
         have c47b0 : decide (0 < (x240001_1.length : Int)) = false := decide_eq_false c47
         have c47b1 : decide (0 < x240001_1.length) = false := decide_eq_false (by omega)
         clear c47
         (first | rw [c47b0] | (simp only [i64_w, i32_w]; rw [c47b0]) | rw [c47b1] | skip)
         have H' := Aside0.mk H
         clear H
         go_wp2
         go_meet
         case rel => exact ⟨_, (t229), H', ⟨by have := HK1.out; have := HJ14.out; first | omega | exact Nat.le_refl _⟩, ⟨by (with_reducible repeat (first | apply Kd.S_alloc | apply Kd.S_drewN | apply Kd.S_drew)); exact Kd.S_mono HO_7.out (fun _ hk => trivial)⟩, ⟨by repeat (first | (with_reducible first | exact HB.out | apply below_alloc | apply pw_below_drewN | apply below_drew1 | refine below_set ?_ GE234.out | refine below_set ?_ GE239.out) | exact HB.out)⟩⟩
       case rest =>
        clear HC43
        try clear c1
        try clear c2
        try clear p2
        try clear q2
        try clear hx2
        try clear c3
        try clear hcv3
        try clear c4
        try clear c5
        try clear c6
        try clear c6b0
        try clear c6b1
        try clear p6
        try clear c13
        try clear c16
        try clear c16b0
        try clear c17
        try clear c18
        try clear c18b0
        try clear c19
        try clear c19b0
        try clear c20
        try clear c20b0
        try clear c21
        try clear c21b0
        try clear c22
        try clear c22b0
        try clear c24
        try clear c24b0
        try clear p24
        try clear q24
        try clear hx24
        try clear c25
        try clear c25b0
        try clear p26
        try clear q26
        try clear hx26
        try clear c27
        try clear c27b0
        try clear c27b1
        try clear c27b2
        try clear hcv30
        try clear c31
        try clear c32
        try clear c37
        try clear c38
        try clear c44
        try clear c47
        try clear c47b0
        try clear c47b1
        try clear c48
        try clear c49
        try clear hcz11_0
        try clear hcz11_1
        try clear hcz14_0
        try clear hcz14_1
        try clear hcz14_2
        try clear hcz33_0
        try clear hcz33_1
        try clear hcz33_2
        try clear hcz36_0
        try clear hcz36_1
        try clear hcz36_2
        try clear hcz39_0
        try clear hcz39_1
        try clear hcz39_2
        try clear hcz42_0
        try clear hcz42_1
        try clear hcz42_2
        try clear hcz45_0
        try clear hcz45_1
        try clear hcz45_2
        try clear hcz50_0
        try clear hcz50_1
        try clear hcz50_2
        try clear hfz11_0
        try clear hfz11_1
        try clear hfz14_0
        try clear hfz14_1
        try clear hfz14_2
        try clear hfz33_0
        try clear hfz33_1
        try clear hfz33_2
        try clear hfz36_0
        try clear hfz36_1
        try clear hfz36_2
        try clear hfz39_0
        try clear hfz39_1
        try clear hfz39_2
        try clear hfz42_0
        try clear hfz42_1
        try clear hfz42_2
        try clear hfz45_0
        try clear hfz45_1
        try clear hfz45_2
        try clear hfz50_0
        try clear hfz50_1
        try clear hfz50_2
        try clear hx240_0
        try clear hx241_0
        try clear hx242_0
        try clear p2
        try clear p240
        try clear p241
        try clear p242
        try clear p26
        try clear q240
        try clear q241
        try clear q242
        try clear q26
        obtain ⟨kq, x7_42, HA, HJ42, HO_7, HB⟩ := hcut
        cases kq with
        | zero => exact absurd HA.out (by simp [glebelaw10_DnslBack.j3])
        | succ kj42 =>
         have H := HA.out
         clear HA
         simp only [glebelaw10_DnslBack.j3] at H
         replace H := Option.bind_eq_some_iff.mp H
         obtain ⟨t255, A520, H⟩ := H
         replace H : (if (x7_42.length : Int) > 0 then (if (x7_42.length : Int) = 0 then (none) else ((some (([] : List Int) : List Int)).bind fun y258 => (if 0 ≤ (Int.tmod (Go.bits .and .i64 a2 255) (x7_42.length : Int)) then (if (Int.tmod (Go.bits .and .i64 a2 255) (x7_42.length : Int)) ≤ (x7_42.length : Int) then ((dnsl_Print.f kj42 (x7_42.take ((Int.tmod (Go.bits .and .i64 a2 255) (x7_42.length : Int)) : Int).toNat)).bind fun t265 => (if y258.length + t265.length < 140737488355328 then ((some (y258 ++ t265 : List Int)).bind fun y268 => (if y268.length + 8 < 140737488355328 then ((some (y268 ++ bytesOf (⟨#[10, 35, 32, 97, 61, 98, 10, 10]⟩ : ByteArray) : List Int)).bind fun y271 => ((dnsl_Print.f kj42 (x7_42.drop ((Int.tmod (Go.bits .and .i64 a2 255) (x7_42.length : Int)) : Int).toNat)).bind fun t278 => (if y271.length + t278.length < 140737488355328 then (glebelaw10_DnslBack.j4 kj42 x7_42 (y271 ++ t278)) else (none)))) else (none))) else (none))) else (none)) else (none)))) else (glebelaw10_DnslBack.j4 kj42 x7_42 t255)) = some r := H
         have A52 := Aside0.mk A520
         clear A520
         have HC53 := Aside0.mk H
         clear H
         obtain ⟨Ao54, co54, eo54⟩ := Kd.S_slice HO_7.out
         subst eo54
         go_upto_if 104 with (first | ((with_reducible refine gate_callee (f := 7) rfl ?_); refine goesL_ (some 101) rfl rfl Try.func7 (by kernel_rfl) rfl #[.slice Ao54 x7_42.length co54] rfl (by (try simp only [List.map_toArray, List.map_cons, List.map_nil]); first | done | rfl | (simp only [List.length_drop, List.length_take]; rfl)) ?_; (with_reducible refine (dnsl_Print.calls kj42 _ _ x7_42 t255 _ ?side1 ?side2 A52.out).mono ?_); (case side1 => repeat (first | exact (Kd.S_reads' HO_7.out).2.2 | (with_reducible refine Kd.C_alloc ?_ _) | (with_reducible refine Kd.C_drewN ?_ _) | (with_reducible refine Kd.C_drew ?_))); (case side2 => exact (Kd.S_reads' HO_7.out).2.1); rintro e w55 ⟨v256, rfl, ho0, hb⟩; refine ⟨_, rfl, ?_⟩; have n0_ := Aside0.mk (Kd.S_below (by (with_reducible repeat (first | apply Kd.S_alloc | apply Kd.S_drewN | apply Kd.S_drew)); exact HO_7.out) hb); have n1_ := Aside0.mk (Kd.V_lower (Kd.V_mono (ok' := fun k_ => some k_ ≠ (.slice Ao54 x7_42.length co54 : Value).ownBlock) ho0 (fun k_ hk_ => (Kd.fresh' (Kd.S_lt (by (with_reducible repeat (first | apply Kd.S_alloc | apply Kd.S_drewN | apply Kd.S_drew)); exact HO_7.out)) k_ hk_))) (below_size (by repeat (first | (with_reducible first | exact HB.out | apply below_alloc | apply pw_below_drewN | apply below_drew1) | exact HB.out)))); have n2_ := Aside0.mk (below_step (by repeat (first | (with_reducible first | exact HB.out | apply below_alloc | apply pw_below_drewN | apply below_drew1) | exact HB.out)) hb); clear HO_7; clear HB; have HO_7 := n0_; have HO257 := n1_; have HB := n2_; clear n0_ n1_ n2_; (try clear hb); (try clear hb2); (try clear hk); (try clear hi); (try clear ho0)))
         (try simp only [Act.put, List.setIfInBounds_toArray, List.set_cons_zero, List.set_cons_succ])
         go_cut [13] (fun v13 wc => ∃ (kq : Nat) (x13_52 : List Int), Aside0 (glebelaw10_DnslBack.j4 kq x7_42 x13_52 = some r) ∧ Aside0 (kq ≤ kj42) ∧ Aside0 (Kd.S k34 34 wc w.heap.size (fun _ => True) (.slice Ao54 x7_42.length co54) x7_42) ∧ Aside0 (Kd.V (Kd.int .u8) 5 wc w.heap.size (fun k_ => some k_ ≠ ((.slice Ao54 x7_42.length co54) : Value).ownBlock) v13 x13_52) ∧ Aside0 (Below w.heap.size w wc))
         case first =>
          have H := HC53.out
          clear HC53
          by_cases c56 : (x7_42.length : Int) > 0
          ·rw [if_pos c56] at H
           have c56b0 : decide (0 < (x7_42.length : Int)) = true := decide_eq_true c56
           have c56b1 : decide (0 < x7_42.length) = true := decide_eq_true (by omega)
           clear c56
           (first | rw [c56b0] | (simp only [i64_w, i32_w]; rw [c56b0]) | rw [c56b1] | skip)
           by_cases c57 : (x7_42.length : Int) = 0
           ·rw [if_pos c57] at H
            exact absurd H (by simp)
           ·rw [if_neg c57] at H
            have c57b0 : ((x7_42.length : Int) == 0) = false := beq_eq_false_iff_ne.mpr c57
            have c57b1 : ((x7_42.length : Int) != 0) = true := bne_iff_ne.mpr c57
            have c57b2 : ¬ (x7_42 = []) := fun h_ => c57 (by rw [h_]; rfl)
            obtain ⟨y258, hy258⟩ : ∃ y_ : List Int, y_ = (([] : List Int)) := ⟨_, rfl⟩
            replace H : (if 0 ≤ (Int.tmod (Go.bits .and .i64 a2 255) (x7_42.length : Int)) then (if (Int.tmod (Go.bits .and .i64 a2 255) (x7_42.length : Int)) ≤ (x7_42.length : Int) then ((dnsl_Print.f kj42 (x7_42.take ((Int.tmod (Go.bits .and .i64 a2 255) (x7_42.length : Int)) : Int).toNat)).bind fun t265 => (if y258.length + t265.length < 140737488355328 then ((some (y258 ++ t265 : List Int)).bind fun y268 => (if y268.length + 8 < 140737488355328 then ((some (y268 ++ bytesOf (⟨#[10, 35, 32, 97, 61, 98, 10, 10]⟩ : ByteArray) : List Int)).bind fun y271 => ((dnsl_Print.f kj42 (x7_42.drop ((Int.tmod (Go.bits .and .i64 a2 255) (x7_42.length : Int)) : Int).toNat)).bind fun t278 => (if y271.length + t278.length < 140737488355328 then (glebelaw10_DnslBack.j4 kj42 x7_42 (y271 ++ t278)) else (none)))) else (none))) else (none))) else (none)) else (none)) = some r := by first | (rw [hy258]; with_reducible exact H) | (have H2_ := (Option.bind_some _ _).symm.trans H; rw [hy258]; with_reducible exact H2_) | (have H2_ := (Option.bind_some _ _).symm.trans H; with_reducible exact H2_) | with_reducible exact H | (rw [hy258]; exact H) | exact H
            have Ny258 := Aside0.mk hy258
            clear hy258
            obtain ⟨ji58, hji58⟩ : ∃ j_ : Int, (Int.tmod (Go.bits .and .i64 a2 255) (x7_42.length : Int)) = j_ := ⟨_, rfl⟩
            replace H : (if 0 ≤ (ji58) then (if (ji58) ≤ (x7_42.length : Int) then ((dnsl_Print.f kj42 (x7_42.take ((ji58) : Int).toNat)).bind fun t265 => (if y258.length + t265.length < 140737488355328 then ((some (y258 ++ t265 : List Int)).bind fun y268 => (if y268.length + 8 < 140737488355328 then ((some (y268 ++ bytesOf (⟨#[10, 35, 32, 97, 61, 98, 10, 10]⟩ : ByteArray) : List Int)).bind fun y271 => ((dnsl_Print.f kj42 (x7_42.drop ((ji58) : Int).toNat)).bind fun t278 => (if y271.length + t278.length < 140737488355328 then (glebelaw10_DnslBack.j4 kj42 x7_42 (y271 ++ t278)) else (none)))) else (none))) else (none))) else (none)) else (none)) = some r := by first | (rw [hji58] at H; exact H) | (simp only [hji58] at H ⊢; exact H)
            by_cases c59 : 0 ≤ (ji58)
            ·rw [if_pos c59] at H
             have c59b0 := eq_true c59
             have c59b1 : decide (0 ≤ (ji58)) = true := decide_eq_true c59
             clear c59
             by_cases c60 : (ji58) ≤ (x7_42.length : Int)
             ·rw [if_pos c60] at H
              have c60b0 := eq_true c60
              have c60b1 : decide ((ji58) ≤ (x7_42.length : Int)) = true := decide_eq_true c60
              clear c60
              obtain ⟨y261, hy261⟩ : ∃ y_ : List (S34), y_ = (x7_42.take ((ji58) : Int).toNat) := ⟨_, rfl⟩
              replace H : ((dnsl_Print.f kj42 y261).bind fun t265 => (if y258.length + t265.length < 140737488355328 then ((some (y258 ++ t265 : List Int)).bind fun y268 => (if y268.length + 8 < 140737488355328 then ((some (y268 ++ bytesOf (⟨#[10, 35, 32, 97, 61, 98, 10, 10]⟩ : ByteArray) : List Int)).bind fun y271 => ((dnsl_Print.f kj42 (x7_42.drop ((ji58) : Int).toNat)).bind fun t278 => (if y271.length + t278.length < 140737488355328 then (glebelaw10_DnslBack.j4 kj42 x7_42 (y271 ++ t278)) else (none)))) else (none))) else (none))) = some r := by first | (rw [hy261]; with_reducible exact H) | (have H2_ := (Option.bind_some _ _).symm.trans H; rw [hy261]; with_reducible exact H2_) | (have H2_ := (Option.bind_some _ _).symm.trans H; with_reducible exact H2_) | with_reducible exact H | (rw [hy261]; exact H) | exact H
              have Ny261 := Aside0.mk hy261
              clear hy261
              replace H := Option.bind_eq_some_iff.mp H
              obtain ⟨t265, A610, H⟩ := H
              replace H : (if y258.length + t265.length < 140737488355328 then ((some (y258 ++ t265 : List Int)).bind fun y268 => (if y268.length + 8 < 140737488355328 then ((some (y268 ++ bytesOf (⟨#[10, 35, 32, 97, 61, 98, 10, 10]⟩ : ByteArray) : List Int)).bind fun y271 => ((dnsl_Print.f kj42 (x7_42.drop ((ji58) : Int).toNat)).bind fun t278 => (if y271.length + t278.length < 140737488355328 then (glebelaw10_DnslBack.j4 kj42 x7_42 (y271 ++ t278)) else (none)))) else (none))) else (none)) = some r := H
              have A61 := Aside0.mk A610
              clear A610
              by_cases c62 : y258.length + t265.length < 140737488355328
              ·rw [if_pos c62] at H
               have LMc62 := Aside0.mk c62
               clear c62
               obtain ⟨y268, hy268⟩ : ∃ y_ : List Int, y_ = (y258 ++ t265) := ⟨_, rfl⟩
               replace H : (if y268.length + 8 < 140737488355328 then ((some (y268 ++ bytesOf (⟨#[10, 35, 32, 97, 61, 98, 10, 10]⟩ : ByteArray) : List Int)).bind fun y271 => ((dnsl_Print.f kj42 (x7_42.drop ((ji58) : Int).toNat)).bind fun t278 => (if y271.length + t278.length < 140737488355328 then (glebelaw10_DnslBack.j4 kj42 x7_42 (y271 ++ t278)) else (none)))) else (none)) = some r := by first | (rw [hy268]; with_reducible exact H) | (have H2_ := (Option.bind_some _ _).symm.trans H; rw [hy268]; with_reducible exact H2_) | (have H2_ := (Option.bind_some _ _).symm.trans H; with_reducible exact H2_) | with_reducible exact H | (rw [hy268]; exact H) | exact H
               have Ny268 := Aside0.mk hy268
               clear hy268
               by_cases c63 : y268.length + 8 < 140737488355328
               ·rw [if_pos c63] at H
                have LMc63 := Aside0.mk c63
                clear c63
                obtain ⟨y271, hy271⟩ : ∃ y_ : List Int, y_ = (y268 ++ bytesOf (⟨#[10, 35, 32, 97, 61, 98, 10, 10]⟩ : ByteArray)) := ⟨_, rfl⟩
                replace H : ((dnsl_Print.f kj42 (x7_42.drop ((ji58) : Int).toNat)).bind fun t278 => (if y271.length + t278.length < 140737488355328 then (glebelaw10_DnslBack.j4 kj42 x7_42 (y271 ++ t278)) else (none))) = some r := by first | (rw [hy271]; with_reducible exact H) | (have H2_ := (Option.bind_some _ _).symm.trans H; rw [hy271]; with_reducible exact H2_) | (have H2_ := (Option.bind_some _ _).symm.trans H; with_reducible exact H2_) | with_reducible exact H | (rw [hy271]; exact H) | exact H
                have Ny271 := Aside0.mk hy271
                clear hy271
                have c64b0 := eq_true (of_decide_eq_true (by first | (with_reducible assumption) | assumption) : 0 ≤ (ji58))
                have c65b0 := eq_true (of_decide_eq_true (by first | (with_reducible assumption) | assumption) : (ji58) ≤ (x7_42.length : Int))
                obtain ⟨y274, hy274⟩ : ∃ y_ : List (S34), y_ = (x7_42.drop ((ji58) : Int).toNat) := ⟨_, rfl⟩
                replace H : ((dnsl_Print.f kj42 y274).bind fun t278 => (if y271.length + t278.length < 140737488355328 then (glebelaw10_DnslBack.j4 kj42 x7_42 (y271 ++ t278)) else (none))) = some r := by first | (rw [hy274]; with_reducible exact H) | (have H2_ := (Option.bind_some _ _).symm.trans H; rw [hy274]; with_reducible exact H2_) | (have H2_ := (Option.bind_some _ _).symm.trans H; with_reducible exact H2_) | with_reducible exact H | (rw [hy274]; exact H) | exact H
                have Ny274 := Aside0.mk hy274
                clear hy274
                replace H := Option.bind_eq_some_iff.mp H
                obtain ⟨t278, A660, H⟩ := H
                replace H : (if y271.length + t278.length < 140737488355328 then (glebelaw10_DnslBack.j4 kj42 x7_42 (y271 ++ t278)) else (none)) = some r := H
                have A66 := Aside0.mk A660
                clear A660
                by_cases c67 : y271.length + t278.length < 140737488355328
                ·rw [if_pos c67] at H
                 have LMc67 := Aside0.mk c67
                 clear c67
                 obtain ⟨y281, hy281⟩ : ∃ y_ : List Int, y_ = (y271 ++ t278) := ⟨_, rfl⟩
                 replace H : (glebelaw10_DnslBack.j4 kj42 x7_42 y281) = some r := by first | (rw [hy281]; with_reducible exact H) | (have H2_ := (Option.bind_some _ _).symm.trans H; rw [hy281]; with_reducible exact H2_) | (have H2_ := (Option.bind_some _ _).symm.trans H; with_reducible exact H2_) | with_reducible exact H | (rw [hy281]; exact H) | exact H
                 have Ny281 := Aside0.mk hy281
                 clear hy281
                 have H' := Aside0.mk H
                 clear H
                 try go_wp2
                 have n0_ := Aside0.mk (Kd.S_drew HO_7.out)
                 have n1_ := Aside0.mk (Kd.V_drew HO257.out)
                 have n2_ := Aside0.mk (below_drew1 HB.out)
                 clear HO_7
                 clear HO257
                 clear HB
                 have HO_7 := n0_
                 have HO257 := n1_
                 have HB := n2_
                 clear n0_ n1_ n2_
                 have q69 : ((ji58) : Int) ≤ ((x7_42.length : Int) : Int) := of_decide_eq_true (by first | (with_reducible assumption) | assumption)
                 obtain ⟨i069, hi069, _, hsz69, _⟩ := info_parts info34
                 have hroom69 : x7_42.length ≤ co54 := (Kd.S_reads' HO_7.out).2.1
                 have hC69 : Kd.C k34 _ Ao54 x7_42.length x7_42 := (Kd.S_reads' HO_7.out).2.2
                 have hcut69 := cut_to (P := Try.prog) 24 34 .i64 Try.underlying24 hi069 Ao54 x7_42.length co54 (ji58) (of_decide_eq_true (by first | (with_reducible assumption) | assumption)) q69 hroom69
                 have hr69 := Kd.C_take (m := ((ji58) : Int).toNat) hC69 (by omega)
                 have hy69 : y261.length = ((ji58) : Int).toNat := (by rw [Ny261.out, List.length_take]; omega)
                 rw [← Ny261.out] at hr69
                 rw [← hy69] at hcut69
                 have HR264 := Aside0.mk hr69
                 have HC264 := Aside0.mk (show y261.length ≤ co54 from by omega)
                 clear hr69 hC69 hroom69 hi069 hsz69
                 have KY69 := Aside0.mk hy69
                 clear hy69
                 have KL69 := Aside0.mk (show ((ji58) : Int).toNat ≤ x7_42.length from by omega)
                 replace q69 := eq_true q69
                 have q70 : ((ji58) : Int) ≤ ((x7_42.length : Int) : Int) := of_decide_eq_true (by first | (with_reducible assumption) | assumption)
                 obtain ⟨i070, hi070, _, hsz70, _⟩ := info_parts info34
                 have hroom70 : x7_42.length ≤ co54 := (Kd.S_reads' HO_7.out).2.1
                 have hC70 : Kd.C k34 _ Ao54 x7_42.length x7_42 := (Kd.S_reads' HO_7.out).2.2
                 have q070 : (0 : Int) ≤ ((ji58) : Int) := of_decide_eq_true (by first | (with_reducible assumption) | assumption)
                 have hcut70 := cut_from (P := Try.prog) 24 34 .i64 Try.underlying24 hi070 3 hsz70 Ao54 x7_42.length co54 (ji58) q070 q70
                 have hr70 := Kd.C_drop (m := ((ji58) : Int).toNat) (c := co54) hC70 (by omega) hroom70
                 obtain ⟨A70, hA70⟩ : ∃ A1, A1 = (if co54 = ((ji58) : Int).toNat then Ao54 else (Ao54 : Option Addr).map (·.add (((ji58) : Int).toNat * 3))) := ⟨_, rfl⟩
                 obtain ⟨c70, hc70⟩ : ∃ c1, c1 = co54 - ((ji58) : Int).toNat := ⟨_, rfl⟩
                 have hy70 : y274.length = x7_42.length - ((ji58) : Int).toNat := (by rw [Ny274.out, List.length_drop] <;> omega)
                 rw [show (x7_42).drop ((ji58) : Int).toNat = y274 from Ny274.out.symm] at hr70
                 replace hr70 : Kd.C k34 _ A70 y274.length y274 := (by rw [hA70]; exact hr70)
                 rw [← hy70, ← hA70, ← hc70] at hcut70
                 have HR277 := Aside0.mk hr70
                 have HC277 := Aside0.mk (show y274.length ≤ c70 from by rw [hy70, hc70]; exact Nat.sub_le_sub_right hroom70 _)
                 clear hr70 hC70 hroom70 hi070 hsz70 hc70
                 have KY70 := Aside0.mk hy70
                 have KA70 := Aside0.mk hA70
                 clear hy70 hA70
                 have KL70 := Aside0.mk (show ((ji58) : Int).toNat ≤ x7_42.length from by omega)
                 replace q70 := eq_true q70
                 refine start_ (n := 13) (S := fun w' => True) (ds := []) #[false, false, false, false, false, false, false, false, false, false, false, false, false] (by kernel_rfl) rfl rfl trivial (fun hHeld => ?_); refine with_tabW glebelaw10_DnslBack.tab20 glebelaw10_DnslBack.bits20 (fun HT_ HW_ => ?_)
                 generalize w55.drew = w68 at HO_7 HO257 HB HR264 HR277 hHeld ⊢
                 refine pure_ (i := 1) (N := some 111) (v := ?_) (a' := ?_) #[false, true, false, false, false, false, false, false, false, false, false, false, false] rfl rfl (any_of HT_.out (by kernel_rfl)) (fun _ _ _ h => h) (Or.inl ⟨by rfl, ?_⟩) ?_ ?_
                 rotate_left
                 ·intro w'
                  go_simp
                  with_reducible rfl
                 rotate_left
                 ·simp only [Act.put, List.setIfInBounds_toArray, List.set_cons_zero, List.set_cons_succ, i64_w, i32_w]
                  rfl
                 refine pure_ (i := 2) (N := some 112) (v := ?_) (a' := ?_) #[false, true, true, false, false, false, false, false, false, false, false, false, false] rfl rfl (any_of HT_.out (by kernel_rfl)) (fun _ _ _ h => h) (Or.inl ⟨by rfl, ?_⟩) ?_ ?_
                 rotate_left
                 ·intro w'
                  go_simp
                  with_reducible rfl
                 rotate_left
                 ·simp only [Act.put, List.setIfInBounds_toArray, List.set_cons_zero, List.set_cons_succ, i64_w, i32_w]
                  rfl
                 refine pure_ (i := 3) (N := some 113) (v := ?_) (a' := ?_) #[false, true, true, true, false, false, false, false, false, false, false, false, false] rfl rfl (any_of HT_.out (by kernel_rfl)) (fun _ _ _ h => h) (Or.inl ⟨by rfl, ?_⟩) ?_ ?_
                 rotate_left
                 ·intro w'
                  go_simp
                  with_reducible rfl
                 rotate_left
                 ·simp only [Act.put, List.setIfInBounds_toArray, List.set_cons_zero, List.set_cons_succ, i64_w, i32_w]
                  rfl
                 refine pure_ (i := 7) (N := some 117) (v := ?_) (a' := ?_) #[false, true, true, true, false, false, false, true, false, false, false, false, false] rfl rfl (any_of HT_.out (by kernel_rfl)) (fun _ _ _ h => h) (Or.inl ⟨by rfl, ?_⟩) ?_ ?_
                 rotate_left
                 ·intro w'
                  go_simp
                  with_reducible rfl
                 rotate_left
                 ·simp only [Act.put, List.setIfInBounds_toArray, List.set_cons_zero, List.set_cons_succ, i64_w, i32_w]
                  rfl
                 refine pure_ (i := 8) (N := some 118) (v := ?_) (a' := ?_) #[false, true, true, true, false, false, false, true, true, false, false, false, false] rfl rfl (any_of HT_.out (by kernel_rfl)) (fun _ _ _ h => h) (Or.inl ⟨by rfl, ?_⟩) ?_ ?_
                 rotate_left
                 ·intro w'
                  go_simp
                  with_reducible rfl
                 rotate_left
                 ·simp only [Act.put, List.setIfInBounds_toArray, List.set_cons_zero, List.set_cons_succ, i64_w, i32_w]
                  rfl
                 refine pure_ (i := 9) (N := some 119) (v := ?_) (a' := ?_) #[false, true, true, true, false, false, false, true, true, true, false, false, false] rfl rfl (any_of HT_.out (by kernel_rfl)) (fun _ _ _ h => h) (Or.inl ⟨by rfl, ?_⟩) ?_ ?_
                 rotate_left
                 ·intro w'
                  go_simp
                  with_reducible rfl
                 rotate_left
                 ·simp only [Act.put, List.setIfInBounds_toArray, List.set_cons_zero, List.set_cons_succ, i64_w, i32_w]
                  rfl
                 refine join_ (σ := Value × Value) 5 #[true, true, true, true, true, false, false, true, true, true, false, false, false] (fun s_ => [(110, s_.1), (114, s_.2)]) (fun s_ w' => (Kd.V (Kd.int .u8) 5 w' w.heap.size (fun k_ => some k_ ≠ (s_.1 : Value).ownBlock ∧ some k_ ≠ (.slice Ao54 x7_42.length co54 : Value).ownBlock) v256 t255) ∧ (Kd.R (Kd.int .u8) 5 w' w.heap.size (fun _ => True) s_.1 y258) ∧ (Kd.V (Kd.int .u8) 5 w' w.heap.size (fun k_ => some k_ ≠ (s_.1 : Value).ownBlock ∧ some k_ ≠ (.slice Ao54 x7_42.length co54 : Value).ownBlock) s_.2 t265) ∧ (Kd.S k34 34 w' w.heap.size (fun _ => True) (.slice Ao54 x7_42.length co54) x7_42) ∧ (Below w.heap.size w w')) ?_ ?_
                 rotate_left
                 ·intro hCont
                  refine two_ (i := 0) (j := 4) (Ni := some 110) (Nj := some 114) #[true, true, true, true, false, false, false, true, true, true, false, false, false] #[false, true, true, true, true, false, false, true, true, true, false, false, false] rfl rfl rfl rfl (two_of HT_.out (by kernel_rfl)) (by decide) (by decide) (fun K hK => ?_) (fun K hK => ?_)
                  ·skip
                   refine Kd.R_lit_step (Kd.int .u8) _ 5 ?hg (N := 110) ?hd (xs := ([] : List Int)) (inner := []) (ok := fun _ => True) (okp := fun _ => True) ?hr ?hp (fun _ hk => hk) trivial (Below.refl _ _) (Nat.le_refl _) (by simp) ?_; (case hd => rfl); (case hg => rfl); (case hr => first | (go_simp; done) | (go_simp; rfl)); (case hp => exact (Reps.none _ _))
                   intro v259 w71 ho72 hb hg_ hnew_
                   clear hg_ hnew_
                   (first | rw [← Ny258.out] at ho72 | (simp only [Int.reduceToNat] at ho72; rw [← Ny258.out] at ho72))
                   have n0_ := Aside0.mk (Kd.S_below (by (with_reducible repeat (first | apply Kd.S_alloc | apply Kd.S_drewN | apply Kd.S_drew)); exact HO_7.out) hb)
                   have n1_ := Aside0.mk (Kd.V_elder' (by (with_reducible repeat (first | apply Kd.V_alloc | apply Kd.V_drewN | apply Kd.V_drew)); exact HO257.out) (Kd.R_base ho72) hb)
                   have n2_ := Aside0.mk (Kd.R_lower ho72 (below_size (by repeat (first | (with_reducible first | exact HB.out | apply below_alloc | apply pw_below_drewN | apply below_drew1) | exact HB.out))))
                   have n3_ := Aside0.mk (Kd.C_below (by repeat (first | (with_reducible exact HR264.out) | (with_reducible refine Kd.C_alloc ?_ _) | (with_reducible refine Kd.C_drewN ?_ _) | (with_reducible refine Kd.C_drew ?_) | exact HR264.out)) hb)
                   have n4_ := Aside0.mk (Kd.C_below (by repeat (first | (with_reducible exact HR277.out) | (with_reducible refine Kd.C_alloc ?_ _) | (with_reducible refine Kd.C_drewN ?_ _) | (with_reducible refine Kd.C_drew ?_) | exact HR277.out)) hb)
                   have n5_ := Aside0.mk (below_step (by repeat (first | (with_reducible first | exact HB.out | apply below_alloc | apply pw_below_drewN | apply below_drew1) | exact HB.out)) hb)
                   clear HO_7
                   clear HO257
                   clear HR264
                   clear HR277
                   clear HB
                   have HO_7 := n0_
                   have HO257 := n1_
                   have HO260 := n2_
                   have HR264 := n3_
                   have HR277 := n4_
                   have HB := n5_
                   clear n0_ n1_ n2_ n3_ n4_ n5_
                   clear hb ho72
                   refine hK.out _ _ trivial (fun hHeld => ?_)
                   clear hK K
                   refine norm_ (a' := ?_) ?_ ?_
                   rotate_left
                   ·show Act.put _ (some 110) _ = _
                    simp only [Act.put, List.setIfInBounds_toArray, List.set_cons_zero, List.set_cons_succ, i64_w, i32_w]
                    rfl
                   refine one_ (i := 4) (N := some 114) #[true, true, true, true, true, false, false, true, true, true, false, false, false] rfl rfl (one_of HT_.out (by kernel_rfl)) (by decide) (fun K hK => ?_)
                   refine goes_ Try.func7 (by kernel_rfl) rfl #[.slice Ao54 y261.length co54] (by rfl) rfl rfl (by (try simp only [List.map_toArray, List.map_cons, List.map_nil]); first | done | rfl | (simp only [List.length_drop, List.length_take]; rfl)) ?_
                   with_reducible refine (dnsl_Print.calls kj42 _ _ y261 t265 _ ?side1 ?side2 A61.out).mono ?_
                   (case side1 => repeat (first | exact (by repeat (first | (with_reducible exact HR264.out) | (with_reducible refine Kd.C_alloc ?_ _) | (with_reducible refine Kd.C_drewN ?_ _) | (with_reducible refine Kd.C_drew ?_) | exact HR264.out)) | (with_reducible refine Kd.C_alloc ?_ _) | (with_reducible refine Kd.C_drewN ?_ _) | (with_reducible refine Kd.C_drew ?_)))
                   (case side2 => exact HC264.out)
                   rintro e w73 ⟨v266, rfl, ho0, hb⟩
                   refine ⟨_, rfl, ?_⟩
                   have n0_ := Aside0.mk (Kd.S_below (by (with_reducible repeat (first | apply Kd.S_alloc | apply Kd.S_drewN | apply Kd.S_drew)); exact HO_7.out) hb)
                   have n1_ := Aside0.mk (Kd.V_below (by (with_reducible repeat (first | apply Kd.V_alloc | apply Kd.V_drewN | apply Kd.V_drew)); exact HO257.out) hb)
                   have n2_ := Aside0.mk (Kd.R_below (by (with_reducible repeat (first | apply Kd.R_alloc | apply Kd.R_drewN | apply Kd.R_drew)); exact HO260.out) hb)
                   have n3_ := Aside0.mk (Kd.V_lower (Kd.V_mono (ok' := fun k_ => some k_ ≠ (.slice Ao54 x7_42.length co54 : Value).ownBlock ∧ some k_ ≠ (v259 : Value).ownBlock) ho0 (fun k_ hk_ => ⟨(Kd.fresh' (Kd.S_lt (by (with_reducible repeat (first | apply Kd.S_alloc | apply Kd.S_drewN | apply Kd.S_drew)); exact HO_7.out)) k_ hk_), (Kd.fresh' (Kd.R_lt (by (with_reducible repeat (first | apply Kd.R_alloc | apply Kd.R_drewN | apply Kd.R_drew)); exact HO260.out)) k_ hk_)⟩)) (below_size (by repeat (first | (with_reducible first | exact HB.out | apply below_alloc | apply pw_below_drewN | apply below_drew1) | exact HB.out))))
                   have n4_ := Aside0.mk (Kd.C_below (by repeat (first | (with_reducible exact HR264.out) | (with_reducible refine Kd.C_alloc ?_ _) | (with_reducible refine Kd.C_drewN ?_ _) | (with_reducible refine Kd.C_drew ?_) | exact HR264.out)) hb)
                   have n5_ := Aside0.mk (Kd.C_below (by repeat (first | (with_reducible exact HR277.out) | (with_reducible refine Kd.C_alloc ?_ _) | (with_reducible refine Kd.C_drewN ?_ _) | (with_reducible refine Kd.C_drew ?_) | exact HR277.out)) hb)
                   have n6_ := Aside0.mk (below_step (by repeat (first | (with_reducible first | exact HB.out | apply below_alloc | apply pw_below_drewN | apply below_drew1) | exact HB.out)) hb)
                   clear HO_7
                   clear HO257
                   clear HO260
                   clear HR264
                   clear HR277
                   clear HB
                   have HO_7 := n0_
                   have HO257 := n1_
                   have HO260 := n2_
                   have HO267 := n3_
                   have HR264 := n4_
                   have HR277 := n5_
                   have HB := n6_
                   clear n0_ n1_ n2_ n3_ n4_ n5_ n6_
                   (try clear hb)
                   (try clear hb2)
                   (try clear hk)
                   (try clear hi)
                   (try clear ho0)
                   refine hK.out _ _ trivial (fun hHeld => ?_)
                   clear hK K
                   refine norm_ (a' := ?_) ?_ ?_
                   rotate_left
                   ·show Act.put _ (some 114) _ = _
                    simp only [Act.put, List.setIfInBounds_toArray, List.set_cons_zero, List.set_cons_succ, i64_w, i32_w]
                    rfl
                   exact norm_ (by simp only [putAll, Act.put, List.setIfInBounds_toArray, List.set_cons_zero, List.set_cons_succ]) (hCont (v259, v266) _ ⟨(by (with_reducible repeat (first | apply Kd.V_alloc | apply Kd.V_drewN | apply Kd.V_drew)); exact Kd.V_mono HO257.out (fun _ hk => ⟨hk.2, hk.1⟩)), (by (with_reducible repeat (first | apply Kd.R_alloc | apply Kd.R_drewN | apply Kd.R_drew)); exact HO260.out), (by (with_reducible repeat (first | apply Kd.V_alloc | apply Kd.V_drewN | apply Kd.V_drew)); exact Kd.V_mono HO267.out (fun _ hk => ⟨hk.2, hk.1⟩)), (by (with_reducible repeat (first | apply Kd.S_alloc | apply Kd.S_drewN | apply Kd.S_drew)); exact HO_7.out), (by repeat (first | (with_reducible first | exact HB.out | apply below_alloc | apply pw_below_drewN | apply below_drew1) | exact HB.out))⟩)
                  ·skip
                   refine goes_ Try.func7 (by kernel_rfl) rfl #[.slice Ao54 y261.length co54] (by rfl) rfl rfl (by (try simp only [List.map_toArray, List.map_cons, List.map_nil]); first | done | rfl | (simp only [List.length_drop, List.length_take]; rfl)) ?_
                   with_reducible refine (dnsl_Print.calls kj42 _ _ y261 t265 _ ?side1 ?side2 A61.out).mono ?_
                   (case side1 => repeat (first | exact (by repeat (first | (with_reducible exact HR264.out) | (with_reducible refine Kd.C_alloc ?_ _) | (with_reducible refine Kd.C_drewN ?_ _) | (with_reducible refine Kd.C_drew ?_) | exact HR264.out)) | (with_reducible refine Kd.C_alloc ?_ _) | (with_reducible refine Kd.C_drewN ?_ _) | (with_reducible refine Kd.C_drew ?_)))
                   (case side2 => exact HC264.out)
                   rintro e w71 ⟨v266, rfl, ho0, hb⟩
                   refine ⟨_, rfl, ?_⟩
                   have n0_ := Aside0.mk (Kd.S_below (by (with_reducible repeat (first | apply Kd.S_alloc | apply Kd.S_drewN | apply Kd.S_drew)); exact HO_7.out) hb)
                   have n1_ := Aside0.mk (Kd.V_below (by (with_reducible repeat (first | apply Kd.V_alloc | apply Kd.V_drewN | apply Kd.V_drew)); exact HO257.out) hb)
                   have n2_ := Aside0.mk (Kd.V_lower (Kd.V_mono (ok' := fun k_ => some k_ ≠ (.slice Ao54 x7_42.length co54 : Value).ownBlock) ho0 (fun k_ hk_ => (Kd.fresh' (Kd.S_lt (by (with_reducible repeat (first | apply Kd.S_alloc | apply Kd.S_drewN | apply Kd.S_drew)); exact HO_7.out)) k_ hk_))) (below_size (by repeat (first | (with_reducible first | exact HB.out | apply below_alloc | apply pw_below_drewN | apply below_drew1) | exact HB.out))))
                   have n3_ := Aside0.mk (Kd.C_below (by repeat (first | (with_reducible exact HR264.out) | (with_reducible refine Kd.C_alloc ?_ _) | (with_reducible refine Kd.C_drewN ?_ _) | (with_reducible refine Kd.C_drew ?_) | exact HR264.out)) hb)
                   have n4_ := Aside0.mk (Kd.C_below (by repeat (first | (with_reducible exact HR277.out) | (with_reducible refine Kd.C_alloc ?_ _) | (with_reducible refine Kd.C_drewN ?_ _) | (with_reducible refine Kd.C_drew ?_) | exact HR277.out)) hb)
                   have n5_ := Aside0.mk (below_step (by repeat (first | (with_reducible first | exact HB.out | apply below_alloc | apply pw_below_drewN | apply below_drew1) | exact HB.out)) hb)
                   clear HO_7
                   clear HO257
                   clear HR264
                   clear HR277
                   clear HB
                   have HO_7 := n0_
                   have HO257 := n1_
                   have HO267 := n2_
                   have HR264 := n3_
                   have HR277 := n4_
                   have HB := n5_
                   clear n0_ n1_ n2_ n3_ n4_ n5_
                   (try clear hb)
                   (try clear hb2)
                   (try clear hk)
                   (try clear hi)
                   (try clear ho0)
                   refine hK.out _ _ trivial (fun hHeld => ?_)
                   clear hK K
                   refine norm_ (a' := ?_) ?_ ?_
                   rotate_left
                   ·show Act.put _ (some 114) _ = _
                    simp only [Act.put, List.setIfInBounds_toArray, List.set_cons_zero, List.set_cons_succ, i64_w, i32_w]
                    rfl
                   refine one_ (i := 0) (N := some 110) #[true, true, true, true, true, false, false, true, true, true, false, false, false] rfl rfl (one_of HT_.out (by kernel_rfl)) (by decide) (fun K hK => ?_)
                   refine Kd.R_lit_step (Kd.int .u8) _ 5 ?hg (N := 110) ?hd (xs := ([] : List Int)) (inner := []) (ok := fun _ => True) (okp := fun _ => True) ?hr ?hp (fun _ hk => hk) trivial (Below.refl _ _) (Nat.le_refl _) (by simp) ?_; (case hd => rfl); (case hg => rfl); (case hr => first | (go_simp; done) | (go_simp; rfl)); (case hp => exact (Reps.none _ _))
                   intro v259 w72 ho73 hb hg_ hnew_
                   clear hg_ hnew_
                   (first | rw [← Ny258.out] at ho73 | (simp only [Int.reduceToNat] at ho73; rw [← Ny258.out] at ho73))
                   have n0_ := Aside0.mk (Kd.S_below (by (with_reducible repeat (first | apply Kd.S_alloc | apply Kd.S_drewN | apply Kd.S_drew)); exact HO_7.out) hb)
                   have n1_ := Aside0.mk (Kd.V_elder' (by (with_reducible repeat (first | apply Kd.V_alloc | apply Kd.V_drewN | apply Kd.V_drew)); exact HO257.out) (Kd.R_base ho73) hb)
                   have n2_ := Aside0.mk (Kd.V_elder' (by (with_reducible repeat (first | apply Kd.V_alloc | apply Kd.V_drewN | apply Kd.V_drew)); exact HO267.out) (Kd.R_base ho73) hb)
                   have n3_ := Aside0.mk (Kd.R_lower ho73 (below_size (by repeat (first | (with_reducible first | exact HB.out | apply below_alloc | apply pw_below_drewN | apply below_drew1) | exact HB.out))))
                   have n4_ := Aside0.mk (Kd.C_below (by repeat (first | (with_reducible exact HR264.out) | (with_reducible refine Kd.C_alloc ?_ _) | (with_reducible refine Kd.C_drewN ?_ _) | (with_reducible refine Kd.C_drew ?_) | exact HR264.out)) hb)
                   have n5_ := Aside0.mk (Kd.C_below (by repeat (first | (with_reducible exact HR277.out) | (with_reducible refine Kd.C_alloc ?_ _) | (with_reducible refine Kd.C_drewN ?_ _) | (with_reducible refine Kd.C_drew ?_) | exact HR277.out)) hb)
                   have n6_ := Aside0.mk (below_step (by repeat (first | (with_reducible first | exact HB.out | apply below_alloc | apply pw_below_drewN | apply below_drew1) | exact HB.out)) hb)
                   clear HO_7
                   clear HO257
                   clear HO267
                   clear HR264
                   clear HR277
                   clear HB
                   have HO_7 := n0_
                   have HO257 := n1_
                   have HO267 := n2_
                   have HO260 := n3_
                   have HR264 := n4_
                   have HR277 := n5_
                   have HB := n6_
                   clear n0_ n1_ n2_ n3_ n4_ n5_ n6_
                   clear hb ho73
                   refine hK.out _ _ trivial (fun hHeld => ?_)
                   clear hK K
                   refine norm_ (a' := ?_) ?_ ?_
                   rotate_left
                   ·show Act.put _ (some 110) _ = _
                    simp only [Act.put, List.setIfInBounds_toArray, List.set_cons_zero, List.set_cons_succ, i64_w, i32_w]
                    rfl
                   exact norm_ (by simp only [putAll, Act.put, List.setIfInBounds_toArray, List.set_cons_zero, List.set_cons_succ]) (hCont (v259, v266) _ ⟨(by (with_reducible repeat (first | apply Kd.V_alloc | apply Kd.V_drewN | apply Kd.V_drew)); exact Kd.V_mono HO257.out (fun _ hk => ⟨hk.2, hk.1⟩)), (by (with_reducible repeat (first | apply Kd.R_alloc | apply Kd.R_drewN | apply Kd.R_drew)); exact HO260.out), (by (with_reducible repeat (first | apply Kd.V_alloc | apply Kd.V_drewN | apply Kd.V_drew)); exact Kd.V_mono HO267.out (fun _ hk => ⟨hk.2, hk.1⟩)), (by (with_reducible repeat (first | apply Kd.S_alloc | apply Kd.S_drewN | apply Kd.S_drew)); exact HO_7.out), (by repeat (first | (with_reducible first | exact HB.out | apply below_alloc | apply pw_below_drewN | apply below_drew1) | exact HB.out))⟩)
                 rintro ⟨v259, v266⟩ w74 ⟨h0_, h1_, h2_, h3_, h4_⟩
                 have n0_ : Aside0 (Kd.V (Kd.int .u8) 5 w74 w.heap.size (fun k_ => some k_ ≠ (v259 : Value).ownBlock ∧ some k_ ≠ (.slice Ao54 x7_42.length co54 : Value).ownBlock) v256 t255) := ⟨h0_⟩
                 have n1_ : Aside0 (Kd.R (Kd.int .u8) 5 w74 w.heap.size (fun _ => True) v259 y258) := ⟨h1_⟩
                 have n2_ : Aside0 (Kd.V (Kd.int .u8) 5 w74 w.heap.size (fun k_ => some k_ ≠ (v259 : Value).ownBlock ∧ some k_ ≠ (.slice Ao54 x7_42.length co54 : Value).ownBlock) v266 t265) := ⟨h2_⟩
                 have n3_ : Aside0 (Kd.S k34 34 w74 w.heap.size (fun _ => True) (.slice Ao54 x7_42.length co54) x7_42) := ⟨h3_⟩
                 have n4_ : Aside0 (Below w.heap.size w w74) := ⟨h4_⟩
                 clear HO_7
                 clear HO257
                 clear HB
                 clear h0_ h1_ h2_ h3_ h4_
                 have HO257 := n0_
                 have HO260 := n1_
                 have HO267 := n2_
                 have HO_7 := n3_
                 have HB := n4_
                 clear n0_ n1_ n2_ n3_ n4_
                 have hHeld := trivial
                 have HR264 := Aside0.mk (show Kd.C k34 w74 Ao54 y261.length y261 from by rw [Ny261.out]; exact Kd.C_take (m := ((ji58) : Int).toNat) ((Kd.S_reads' (HO_7.out)).2.2) KL69.out)
                 have HR277 := Aside0.mk (show Kd.C k34 w74 A70 y274.length y274 from by rw [Ny274.out, KA70.out]; exact Kd.C_drop (m := ((ji58) : Int).toNat) (c := co54) ((Kd.S_reads' (HO_7.out)).2.2) KL70.out ((Kd.S_reads' (HO_7.out)).2.1))
                 obtain ⟨Ao76, co76, eo76⟩ := Kd.V_slice HO267.out
                 (first | subst eo76 | (injection eo76 with f1_ f2_ f3_; have f4_ := f1_.symm; have f5_ := f3_.symm; clear f1_ f2_ f3_; subst f4_; subst f5_))
                 refine norm_ (a' := ?_) ?_ ?_
                 rotate_left
                 ·simp only [putAll, Act.put, List.setIfInBounds_toArray, List.set_cons_zero, List.set_cons_succ]
                  rfl
                 refine one_ (i := 5) (N := some 115) #[true, true, true, true, true, true, false, true, true, true, false, false, false] rfl rfl (one_of HT_.out (by kernel_rfl)) (by decide) (fun K hK => ?_)
                 refine Kd.R_append_rows_step (Kd.int .u8) (w0 := w) w.heap.size (by rfl) (.tmp 110) (.tmp 114) 29 5 (.int .u8 0) 1 rfl Try.underlying29 info5 rfl (by decide) (by omega) v259 y258 t265 _ _ _ (fun _ => True) (fun _ => False) rfl rfl ?aO ?aR (fun _ _ h => h) (fun _ h => h.elim) ?aF ?aB ?aS ?aL ?_
                 (case aR => repeat (first | exact (Kd.V_reads' HO267.out).2.2 | (with_reducible refine Kd.C_alloc ?_ _) | (with_reducible refine Kd.C_drewN ?_ _) | (with_reducible refine Kd.C_drew ?_)))
                 (case aB => exact (by repeat (first | (with_reducible first | exact HB.out | apply below_alloc | apply pw_below_drewN | apply below_drew1) | exact HB.out)))
                 (case aF => exact (fun _ _ => trivial))
                 (case aO => exact (by (with_reducible repeat (first | apply Kd.R_alloc | apply Kd.R_drewN | apply Kd.R_drew)); exact HO260.out))
                 (case aS => exact (below_size (by repeat (first | (with_reducible first | exact HB.out | apply below_alloc | apply pw_below_drewN | apply below_drew1) | exact HB.out))))
                 (case aL => have := LMc62.out; omega)
                 intro v269 w75 ho hb hg hat
                 rw [← Ny268.out] at ho
                 have n0_ := Aside0.mk (Kd.S_over' (by (with_reducible repeat (first | apply Kd.S_alloc | apply Kd.S_drewN | apply Kd.S_drew)); exact HO_7.out) (Kd.R_typed (by (with_reducible repeat (first | apply Kd.R_alloc | apply Kd.R_drewN | apply Kd.R_drew)); exact HO260.out)) (by decide) hg)
                 have n1_ := Aside0.mk (Kd.V_afterv (ok := (fun k_ => some k_ ≠ (.slice Ao54 x7_42.length co54 : Value).ownBlock)) (by (with_reducible repeat (first | apply Kd.V_alloc | apply Kd.V_drewN | apply Kd.V_drew)); exact Kd.V_mono HO257.out (fun _ hk => ⟨hk.2, hk.1⟩)) hg hat)
                 have n2_ := Aside0.mk (Kd.V_afterv (ok := (fun k_ => some k_ ≠ (.slice Ao54 x7_42.length co54 : Value).ownBlock)) (by (with_reducible repeat (first | apply Kd.V_alloc | apply Kd.V_drewN | apply Kd.V_drew)); exact Kd.V_mono HO267.out (fun _ hk => ⟨hk.2, hk.1⟩)) hg hat)
                 have n3_ := Aside0.mk (hb)
                 have n4_ := Aside0.mk ((show Kd.C k34 w75 Ao54 y261.length y261 from by rw [Ny261.out]; exact Kd.C_take (m := ((ji58) : Int).toNat) ((Kd.S_reads' (Kd.S_over' (by (with_reducible repeat (first | apply Kd.S_alloc | apply Kd.S_drewN | apply Kd.S_drew)); exact HO_7.out) (Kd.R_typed (by (with_reducible repeat (first | apply Kd.R_alloc | apply Kd.R_drewN | apply Kd.R_drew)); exact HO260.out)) (by decide) hg)).2.2) KL69.out))
                 have n5_ := Aside0.mk ((show Kd.C k34 w75 A70 y274.length y274 from by rw [Ny274.out, KA70.out]; exact Kd.C_drop (m := ((ji58) : Int).toNat) (c := co54) ((Kd.S_reads' (Kd.S_over' (by (with_reducible repeat (first | apply Kd.S_alloc | apply Kd.S_drewN | apply Kd.S_drew)); exact HO_7.out) (Kd.R_typed (by (with_reducible repeat (first | apply Kd.R_alloc | apply Kd.R_drewN | apply Kd.R_drew)); exact HO260.out)) (by decide) hg)).2.2) KL70.out ((Kd.S_reads' (Kd.S_over' (by (with_reducible repeat (first | apply Kd.S_alloc | apply Kd.S_drewN | apply Kd.S_drew)); exact HO_7.out) (Kd.R_typed (by (with_reducible repeat (first | apply Kd.R_alloc | apply Kd.R_drewN | apply Kd.R_drew)); exact HO260.out)) (by decide) hg)).2.1)))
                 have n6_ := Aside0.mk (ho)
                 clear HO_7
                 clear HO257
                 clear HO267
                 clear HB
                 clear HR264
                 clear HR277
                 clear HO260
                 have HO_7 := n0_
                 have HO257 := n1_
                 have HO267 := n2_
                 have HB := n3_
                 have HR264 := n4_
                 have HR277 := n5_
                 have HO270 := n6_
                 clear n0_ n1_ n2_ n3_ n4_ n5_ n6_
                 clear ho hb hg hat
                 refine hK.out _ _ trivial (fun hHeld => ?_)
                 clear hK K
                 refine norm_ (a' := ?_) ?_ ?_
                 rotate_left
                 ·show Act.put _ (some 115) _ = _
                  simp only [Act.put, List.setIfInBounds_toArray, List.set_cons_zero, List.set_cons_succ, i64_w, i32_w]
                  rfl
                 refine one_ (i := 6) (N := some 116) #[true, true, true, true, true, true, true, true, true, true, false, false, false] rfl rfl (one_of HT_.out (by kernel_rfl)) (by decide) (fun K hK => ?_)
                 refine XW.R_append_str_step (w0 := w) w.heap.size (by rfl) (.tmp 115) _ 29 9 5 rfl Try.underlying29 Try.underlying9 info5 v269 y268 (⟨#[10, 35, 32, 97, 61, 98, 10, 10]⟩ : ByteArray) (fun _ => True) rfl rfl ?aO ?aB ?aS ?aL ?aF ?_
                 (case aB => exact (by repeat (first | (with_reducible first | exact HB.out | apply below_alloc | apply pw_below_drewN | apply below_drew1) | exact HB.out)))
                 (case aF => exact (fun _ _ => trivial))
                 (case aO => exact (by (with_reducible repeat (first | apply Kd.R_alloc | apply Kd.R_drewN | apply Kd.R_drew)); exact HO270.out))
                 (case aS => exact (below_size (by repeat (first | (with_reducible first | exact HB.out | apply below_alloc | apply pw_below_drewN | apply below_drew1) | exact HB.out))))
                 (case aL => have := LMc63.out; first | omega | (show _ + 8 ≤ _; omega))
                 intro v272 w77 ho hb hg hat
                 rw [← Ny271.out] at ho
                 have n0_ := Aside0.mk (Kd.S_over' (by (with_reducible repeat (first | apply Kd.S_alloc | apply Kd.S_drewN | apply Kd.S_drew)); exact HO_7.out) (Kd.R_typed (by (with_reducible repeat (first | apply Kd.R_alloc | apply Kd.R_drewN | apply Kd.R_drew)); exact HO270.out)) (by decide) hg)
                 have n1_ := Aside0.mk (Kd.V_afterv (ok := (fun k_ => some k_ ≠ (.slice Ao54 x7_42.length co54 : Value).ownBlock)) (by (with_reducible repeat (first | apply Kd.V_alloc | apply Kd.V_drewN | apply Kd.V_drew)); exact HO257.out) hg hat)
                 have n2_ := Aside0.mk (Kd.V_afterv (ok := (fun k_ => some k_ ≠ (.slice Ao54 x7_42.length co54 : Value).ownBlock)) (by (with_reducible repeat (first | apply Kd.V_alloc | apply Kd.V_drewN | apply Kd.V_drew)); exact HO267.out) hg hat)
                 have n3_ := Aside0.mk (hb)
                 have n4_ := Aside0.mk ((show Kd.C k34 w77 Ao54 y261.length y261 from by rw [Ny261.out]; exact Kd.C_take (m := ((ji58) : Int).toNat) ((Kd.S_reads' (Kd.S_over' (by (with_reducible repeat (first | apply Kd.S_alloc | apply Kd.S_drewN | apply Kd.S_drew)); exact HO_7.out) (Kd.R_typed (by (with_reducible repeat (first | apply Kd.R_alloc | apply Kd.R_drewN | apply Kd.R_drew)); exact HO270.out)) (by decide) hg)).2.2) KL69.out))
                 have n5_ := Aside0.mk ((show Kd.C k34 w77 A70 y274.length y274 from by rw [Ny274.out, KA70.out]; exact Kd.C_drop (m := ((ji58) : Int).toNat) (c := co54) ((Kd.S_reads' (Kd.S_over' (by (with_reducible repeat (first | apply Kd.S_alloc | apply Kd.S_drewN | apply Kd.S_drew)); exact HO_7.out) (Kd.R_typed (by (with_reducible repeat (first | apply Kd.R_alloc | apply Kd.R_drewN | apply Kd.R_drew)); exact HO270.out)) (by decide) hg)).2.2) KL70.out ((Kd.S_reads' (Kd.S_over' (by (with_reducible repeat (first | apply Kd.S_alloc | apply Kd.S_drewN | apply Kd.S_drew)); exact HO_7.out) (Kd.R_typed (by (with_reducible repeat (first | apply Kd.R_alloc | apply Kd.R_drewN | apply Kd.R_drew)); exact HO270.out)) (by decide) hg)).2.1)))
                 have n6_ := Aside0.mk (ho)
                 clear HO_7
                 clear HO257
                 clear HO267
                 clear HB
                 clear HR264
                 clear HR277
                 clear HO270
                 have HO_7 := n0_
                 have HO257 := n1_
                 have HO267 := n2_
                 have HB := n3_
                 have HR264 := n4_
                 have HR277 := n5_
                 have HO273 := n6_
                 clear n0_ n1_ n2_ n3_ n4_ n5_ n6_
                 clear ho hb hg hat
                 refine hK.out _ _ trivial (fun hHeld => ?_)
                 clear hK K
                 refine norm_ (a' := ?_) ?_ ?_
                 rotate_left
                 ·show Act.put _ (some 116) _ = _
                  simp only [Act.put, List.setIfInBounds_toArray, List.set_cons_zero, List.set_cons_succ, i64_w, i32_w]
                  rfl
                 refine one_ (i := 10) (N := some 120) #[true, true, true, true, true, true, true, true, true, true, true, false, false] rfl rfl (one_of HT_.out (by kernel_rfl)) (by decide) (fun K hK => ?_)
                 refine goes_ Try.func7 (by kernel_rfl) rfl #[.slice A70 y274.length c70] (by rfl) rfl rfl (by (try simp only [List.map_toArray, List.map_cons, List.map_nil]); first | done | rfl | (simp only [List.length_drop, List.length_take]; rfl)) ?_
                 with_reducible refine (dnsl_Print.calls kj42 _ _ y274 t278 _ ?side1 ?side2 A66.out).mono ?_
                 (case side1 => repeat (first | exact (by repeat (first | (with_reducible exact HR277.out) | (with_reducible refine Kd.C_alloc ?_ _) | (with_reducible refine Kd.C_drewN ?_ _) | (with_reducible refine Kd.C_drew ?_) | exact HR277.out)) | (with_reducible refine Kd.C_alloc ?_ _) | (with_reducible refine Kd.C_drewN ?_ _) | (with_reducible refine Kd.C_drew ?_)))
                 (case side2 => exact HC277.out)
                 rintro e w78 ⟨v279, rfl, ho0, hb⟩
                 refine ⟨_, rfl, ?_⟩
                 have n0_ := Aside0.mk (Kd.S_below (by (with_reducible repeat (first | apply Kd.S_alloc | apply Kd.S_drewN | apply Kd.S_drew)); exact HO_7.out) hb)
                 have n1_ := Aside0.mk (Kd.V_below (by (with_reducible repeat (first | apply Kd.V_alloc | apply Kd.V_drewN | apply Kd.V_drew)); exact HO257.out) hb)
                 have n2_ := Aside0.mk (Kd.V_below (by (with_reducible repeat (first | apply Kd.V_alloc | apply Kd.V_drewN | apply Kd.V_drew)); exact HO267.out) hb)
                 have n3_ := Aside0.mk (Kd.R_below (by (with_reducible repeat (first | apply Kd.R_alloc | apply Kd.R_drewN | apply Kd.R_drew)); exact HO273.out) hb)
                 have n4_ := Aside0.mk (Kd.V_lower (Kd.V_mono (ok' := fun k_ => some k_ ≠ (.slice Ao54 x7_42.length co54 : Value).ownBlock ∧ some k_ ≠ (v272 : Value).ownBlock) ho0 (fun k_ hk_ => ⟨(Kd.fresh' (Kd.S_lt (by (with_reducible repeat (first | apply Kd.S_alloc | apply Kd.S_drewN | apply Kd.S_drew)); exact HO_7.out)) k_ hk_), (Kd.fresh' (Kd.R_lt (by (with_reducible repeat (first | apply Kd.R_alloc | apply Kd.R_drewN | apply Kd.R_drew)); exact HO273.out)) k_ hk_)⟩)) (below_size (by repeat (first | (with_reducible first | exact HB.out | apply below_alloc | apply pw_below_drewN | apply below_drew1) | exact HB.out))))
                 have n5_ := Aside0.mk (Kd.C_below (by repeat (first | (with_reducible exact HR264.out) | (with_reducible refine Kd.C_alloc ?_ _) | (with_reducible refine Kd.C_drewN ?_ _) | (with_reducible refine Kd.C_drew ?_) | exact HR264.out)) hb)
                 have n6_ := Aside0.mk (Kd.C_below (by repeat (first | (with_reducible exact HR277.out) | (with_reducible refine Kd.C_alloc ?_ _) | (with_reducible refine Kd.C_drewN ?_ _) | (with_reducible refine Kd.C_drew ?_) | exact HR277.out)) hb)
                 have n7_ := Aside0.mk (below_step (by repeat (first | (with_reducible first | exact HB.out | apply below_alloc | apply pw_below_drewN | apply below_drew1) | exact HB.out)) hb)
                 clear HO_7
                 clear HO257
                 clear HO267
                 clear HO273
                 clear HR264
                 clear HR277
                 clear HB
                 have HO_7 := n0_
                 have HO257 := n1_
                 have HO267 := n2_
                 have HO273 := n3_
                 have HO280 := n4_
                 have HR264 := n5_
                 have HR277 := n6_
                 have HB := n7_
                 clear n0_ n1_ n2_ n3_ n4_ n5_ n6_ n7_
                 (try clear hb)
                 (try clear hb2)
                 (try clear hk)
                 (try clear hi)
                 (try clear ho0)
                 obtain ⟨Ao80, co80, eo80⟩ := Kd.V_slice HO280.out
                 (first | subst eo80 | (injection eo80 with f1_ f2_ f3_; have f4_ := f1_.symm; have f5_ := f3_.symm; clear f1_ f2_ f3_; subst f4_; subst f5_))
                 refine hK.out _ _ trivial (fun hHeld => ?_)
                 clear hK K
                 refine norm_ (a' := ?_) ?_ ?_
                 rotate_left
                 ·show Act.put _ (some 120) _ = _
                  simp only [Act.put, List.setIfInBounds_toArray, List.set_cons_zero, List.set_cons_succ, i64_w, i32_w]
                  rfl
                 refine one_ (i := 11) (N := some 121) #[true, true, true, true, true, true, true, true, true, true, true, true, false] rfl rfl (one_of HT_.out (by kernel_rfl)) (by decide) (fun K hK => ?_)
                 refine Kd.R_append_rows_step (Kd.int .u8) (w0 := w) w.heap.size (by rfl) (.tmp 116) (.tmp 120) 29 5 (.int .u8 0) 1 rfl Try.underlying29 info5 rfl (by decide) (by omega) v272 y271 t278 _ _ _ (fun _ => True) (fun _ => False) rfl rfl ?aO ?aR (fun _ _ h => h) (fun _ h => h.elim) ?aF ?aB ?aS ?aL ?_
                 (case aR => repeat (first | exact (Kd.V_reads' HO280.out).2.2 | (with_reducible refine Kd.C_alloc ?_ _) | (with_reducible refine Kd.C_drewN ?_ _) | (with_reducible refine Kd.C_drew ?_)))
                 (case aB => exact (by repeat (first | (with_reducible first | exact HB.out | apply below_alloc | apply pw_below_drewN | apply below_drew1) | exact HB.out)))
                 (case aF => exact (fun _ _ => trivial))
                 (case aO => exact (by (with_reducible repeat (first | apply Kd.R_alloc | apply Kd.R_drewN | apply Kd.R_drew)); exact HO273.out))
                 (case aS => exact (below_size (by repeat (first | (with_reducible first | exact HB.out | apply below_alloc | apply pw_below_drewN | apply below_drew1) | exact HB.out))))
                 (case aL => have := LMc67.out; omega)
                 intro v282 w79 ho hb hg hat
                 rw [← Ny281.out] at ho
                 have n0_ := Aside0.mk (Kd.S_over' (by (with_reducible repeat (first | apply Kd.S_alloc | apply Kd.S_drewN | apply Kd.S_drew)); exact HO_7.out) (Kd.R_typed (by (with_reducible repeat (first | apply Kd.R_alloc | apply Kd.R_drewN | apply Kd.R_drew)); exact HO273.out)) (by decide) hg)
                 have n1_ := Aside0.mk (Kd.V_afterv (ok := (fun k_ => some k_ ≠ (.slice Ao54 x7_42.length co54 : Value).ownBlock)) (by (with_reducible repeat (first | apply Kd.V_alloc | apply Kd.V_drewN | apply Kd.V_drew)); exact HO257.out) hg hat)
                 have n2_ := Aside0.mk (Kd.V_afterv (ok := (fun k_ => some k_ ≠ (.slice Ao54 x7_42.length co54 : Value).ownBlock)) (by (with_reducible repeat (first | apply Kd.V_alloc | apply Kd.V_drewN | apply Kd.V_drew)); exact HO267.out) hg hat)
                 have n3_ := Aside0.mk (Kd.V_afterv (ok := (fun k_ => some k_ ≠ (.slice Ao54 x7_42.length co54 : Value).ownBlock)) (by (with_reducible repeat (first | apply Kd.V_alloc | apply Kd.V_drewN | apply Kd.V_drew)); exact HO280.out) hg hat)
                 have n4_ := Aside0.mk (hb)
                 have n5_ := Aside0.mk ((show Kd.C k34 w79 Ao54 y261.length y261 from by rw [Ny261.out]; exact Kd.C_take (m := ((ji58) : Int).toNat) ((Kd.S_reads' (Kd.S_over' (by (with_reducible repeat (first | apply Kd.S_alloc | apply Kd.S_drewN | apply Kd.S_drew)); exact HO_7.out) (Kd.R_typed (by (with_reducible repeat (first | apply Kd.R_alloc | apply Kd.R_drewN | apply Kd.R_drew)); exact HO273.out)) (by decide) hg)).2.2) KL69.out))
                 have n6_ := Aside0.mk ((show Kd.C k34 w79 A70 y274.length y274 from by rw [Ny274.out, KA70.out]; exact Kd.C_drop (m := ((ji58) : Int).toNat) (c := co54) ((Kd.S_reads' (Kd.S_over' (by (with_reducible repeat (first | apply Kd.S_alloc | apply Kd.S_drewN | apply Kd.S_drew)); exact HO_7.out) (Kd.R_typed (by (with_reducible repeat (first | apply Kd.R_alloc | apply Kd.R_drewN | apply Kd.R_drew)); exact HO273.out)) (by decide) hg)).2.2) KL70.out ((Kd.S_reads' (Kd.S_over' (by (with_reducible repeat (first | apply Kd.S_alloc | apply Kd.S_drewN | apply Kd.S_drew)); exact HO_7.out) (Kd.R_typed (by (with_reducible repeat (first | apply Kd.R_alloc | apply Kd.R_drewN | apply Kd.R_drew)); exact HO273.out)) (by decide) hg)).2.1)))
                 have n7_ := Aside0.mk (ho)
                 clear HO_7
                 clear HO257
                 clear HO267
                 clear HO280
                 clear HB
                 clear HR264
                 clear HR277
                 clear HO273
                 have HO_7 := n0_
                 have HO257 := n1_
                 have HO267 := n2_
                 have HO280 := n3_
                 have HB := n4_
                 have HR264 := n5_
                 have HR277 := n6_
                 have HO283 := n7_
                 clear n0_ n1_ n2_ n3_ n4_ n5_ n6_ n7_
                 clear ho hb hg hat
                 refine hK.out _ _ trivial (fun hHeld => ?_)
                 clear hK K
                 refine norm_ (a' := ?_) ?_ ?_
                 rotate_left
                 ·show Act.put _ (some 121) _ = _
                  simp only [Act.put, List.setIfInBounds_toArray, List.set_cons_zero, List.set_cons_succ, i64_w, i32_w]
                  rfl
                 refine pure_ (i := 12) (N := some 13) (v := ?_) (a' := ?_) #[true, true, true, true, true, true, true, true, true, true, true, true, true] rfl rfl (any_of HT_.out (by kernel_rfl)) (fun _ _ _ h => h) (Or.inl ⟨by rfl, ?_⟩) ?_ ?_
                 rotate_left
                 ·intro w'
                  go_simp
                  with_reducible rfl
                 rotate_left
                 ·simp only [Act.put, List.setIfInBounds_toArray, List.set_cons_zero, List.set_cons_succ, i64_w, i32_w]
                  rfl
                 refine done_ (done_of HT_.out (by kernel_rfl)) ?_
                 try go_wp2
                 go_meet
                 case rel => exact ⟨_, (y281), H', ⟨by have := HK1.out; have := HJ14.out; have := HJ42.out; first | omega | exact Nat.le_refl _⟩, ⟨by (with_reducible repeat (first | apply Kd.S_alloc | apply Kd.S_drewN | apply Kd.S_drew)); exact HO_7.out⟩, ⟨Kd.R_V (by (with_reducible repeat (first | apply Kd.R_alloc | apply Kd.R_drewN | apply Kd.R_drew)); exact Kd.R_mono (Kd.R_apart' HO283.out (Kd.S_typed HO_7.out) (by decide)) (fun _ hk => hk.2))⟩, ⟨by repeat (first | (with_reducible first | exact HB.out | apply below_alloc | apply pw_below_drewN | apply below_drew1) | exact HB.out)⟩⟩
                ·rw [if_neg c67] at H
                 exact absurd H (by simp)
               ·rw [if_neg c63] at H
                exact absurd H (by simp)
              ·rw [if_neg c62] at H
               exact absurd H (by simp)
             ·rw [if_neg c60] at H
              exact absurd H (by simp)
            ·rw [if_neg c59] at H
             exact absurd H (by simp)
          ·rw [if_neg c56] at H
           have c56b0 : decide (0 < (x7_42.length : Int)) = false := decide_eq_false c56
           have c56b1 : decide (0 < x7_42.length) = false := decide_eq_false (by omega)
           clear c56
           (first | rw [c56b0] | (simp only [i64_w, i32_w]; rw [c56b0]) | rw [c56b1] | skip)
           have H' := Aside0.mk H
           clear H
           go_wp2
           go_meet
           case rel => exact ⟨_, (t255), H', ⟨by have := HK1.out; have := HJ14.out; have := HJ42.out; first | omega | exact Nat.le_refl _⟩, ⟨by (with_reducible repeat (first | apply Kd.S_alloc | apply Kd.S_drewN | apply Kd.S_drew)); exact HO_7.out⟩, ⟨by (with_reducible repeat (first | apply Kd.V_alloc | apply Kd.V_drewN | apply Kd.V_drew)); exact HO257.out⟩, ⟨by repeat (first | (with_reducible first | exact HB.out | apply below_alloc | apply pw_below_drewN | apply below_drew1) | exact HB.out)⟩⟩
         case rest =>
          clear HC53
          try clear c1
          try clear p2
          try clear q2
          try clear hx2
          try clear c5
          try clear c6
          try clear q6
          try clear c7
          try clear q7
          try clear p24
          try clear q24
          try clear hx24
          try clear p26
          try clear q26
          try clear c56
          try clear c56b0
          try clear c56b1
          try clear c57
          try clear c57b0
          try clear c57b1
          try clear c57b2
          try clear c59
          try clear c59b0
          try clear c59b1
          try clear c60
          try clear c60b0
          try clear c60b1
          try clear c62
          try clear c63
          try clear c64
          try clear c64b0
          try clear c65
          try clear c65b0
          try clear c67
          try clear q69
          try clear c70
          try clear q70
          try clear hfz14_2
          try clear hfz33_0
          try clear hfz33_1
          try clear hfz33_2
          try clear hfz36_0
          try clear hfz36_1
          try clear hfz36_2
          try clear hfz39_0
          try clear hfz39_1
          try clear hfz39_2
          try clear hfz42_0
          try clear hfz42_1
          try clear hfz42_2
          try clear hfz45_0
          try clear hfz45_1
          try clear hfz45_2
          try clear hfz50_0
          try clear hfz50_1
          try clear hfz50_2
          try clear hx240_0
          try clear hx241_0
          try clear hx242_0
          try clear p2
          try clear p240
          try clear p241
          try clear p242
          try clear p26
          try clear q070
          try clear q240
          try clear q241
          try clear q242
          try clear q26
          try clear q69
          try clear q70
          obtain ⟨kq, x13_52, HA, HJ52, HO_7, HO_13, HB⟩ := hcut
          cases kq with
          | zero => exact absurd HA.out (by simp [glebelaw10_DnslBack.j4])
          | succ kj52 =>
           have H := HA.out
           clear HA
           simp only [glebelaw10_DnslBack.j4] at H
           replace H := Option.bind_eq_some_iff.mp H
           obtain ⟨⟨t284, t287, t288⟩, A810, H⟩ := H
           replace H : (if t287 = 0 then (glebelaw10_DnslBack.j5 kj52 x7_42 t284 ((t284.length : Int) != (x7_42.length : Int))) else (glebelaw10_DnslBack.j5 kj52 x7_42 t284 true)) = some r := H
           have A81 := Aside0.mk A810
           clear A810
           have HC82 := Aside0.mk H
           clear H
           obtain ⟨Ao83, co83, eo83⟩ := Kd.V_slice HO_13.out
           subst eo83
           go_upto_region 22 with (first | ((with_reducible refine gate_callee (f := 4) rfl ?_); refine goesL_ (some 124) rfl rfl Try.func4 (by kernel_rfl) rfl #[.slice Ao83 x13_52.length co83] rfl (by (try simp only [List.map_toArray, List.map_cons, List.map_nil]); first | done | rfl | (simp only [List.length_drop, List.length_take]; rfl)) ?_; (with_reducible refine (dnsl_Parse.calls kj52 _ _ x13_52 t284 t287 t288 _ ?side1 ?side2 A81.out).mono ?_); (case side1 => repeat (first | exact (Kd.V_reads' HO_13.out).2.2 | (with_reducible refine Kd.C_alloc ?_ _) | (with_reducible refine Kd.C_drewN ?_ _) | (with_reducible refine Kd.C_drew ?_))); (case side2 => exact (Kd.V_reads' HO_13.out).2.1); rintro e w84 ⟨v285, rfl, ho0, hb⟩; refine ⟨_, rfl, ?_⟩; have n0_ := Aside0.mk (Kd.S_elder' (by (with_reducible repeat (first | apply Kd.S_alloc | apply Kd.S_drewN | apply Kd.S_drew)); exact HO_7.out) (Kd.S_base ho0) hb); have n1_ := Aside0.mk (Kd.V_elder' (by (with_reducible repeat (first | apply Kd.V_alloc | apply Kd.V_drewN | apply Kd.V_drew)); exact HO_13.out) (Kd.S_base ho0) hb); have n2_ := Aside0.mk (Kd.S_lower (Kd.S_new' ho0 (Kd.S_lt (by (with_reducible repeat (first | apply Kd.S_alloc | apply Kd.S_drewN | apply Kd.S_drew)); exact HO_7.out))) (below_size (by repeat (first | (with_reducible first | exact HB.out | apply below_alloc | apply pw_below_drewN | apply below_drew1) | exact HB.out)))); have n3_ := Aside0.mk (below_step (by repeat (first | (with_reducible first | exact HB.out | apply below_alloc | apply pw_below_drewN | apply below_drew1) | exact HB.out)) hb); clear HO_7; clear HO_13; clear HB; have HO_7 := n0_; have HO_13 := n1_; have HO286 := n2_; have HB := n3_; clear n0_ n1_ n2_ n3_; (try clear hb); (try clear hb2); (try clear hk); (try clear hi); (try clear ho0)) | ((with_reducible refine gate_dst (N := 16) rfl ?_); (try (refine gate_guard (by rfl) ?_; dsimp only)); refine box_event ?hg (N := 16) ?hd (cs := #[.int .i64 0, .int .i64 0]) (t := 26) ?hr ?_; (case hd => rfl); (case hg => rfl); (case hr => first | (go_simp; done) | (go_simp; rfl)); intro gb289 hg w85 hbox hb; have n0_ := Aside0.mk (Kd.S_below (by (with_reducible repeat (first | apply Kd.S_alloc | apply Kd.S_drewN | apply Kd.S_drew)); exact HO_7.out) hb); have n1_ := Aside0.mk (Kd.V_below (Kd.V_elderB (by (with_reducible repeat (first | apply Kd.V_alloc | apply Kd.V_drewN | apply Kd.V_drew)); exact HO_13.out) gb289 (Nat.le_of_eq hg.symm)) hb); have n2_ := Aside0.mk (Kd.S_below (by (with_reducible repeat (first | apply Kd.S_alloc | apply Kd.S_drewN | apply Kd.S_drew)); exact HO286.out) hb); have n3_ := Aside0.mk (below_step (by repeat (first | (with_reducible first | exact HB.out | apply below_alloc | apply pw_below_drewN | apply below_drew1) | exact HB.out)) hb); have n4_ := Aside0.mk (hbox); have n5_ := Aside0.mk ((by rw [hg]; exact (below_size (by repeat (first | (with_reducible first | exact HB.out | apply below_alloc | apply pw_below_drewN | apply below_drew1) | exact HB.out))) : w.heap.size ≤ gb289)); have n6_ := Aside0.mk ((by rw [hg]; exact (below_size (by repeat (first | (with_reducible first | exact HB.out | apply below_alloc | apply pw_below_drewN | apply below_drew1) | exact HB.out))) : w.heap.size ≤ gb289)); clear HO_7; clear HO_13; clear HO286; clear HB; have HO_7 := n0_; have HO_13 := n1_; have HO286 := n2_; have HB := n3_; have BK289 := n4_; have GW289 := n5_; have GE289 := n6_; clear n0_ n1_ n2_ n3_ n4_ n5_ n6_; clear hb hbox hg; have hcz86_0 : w85.cell? ⟨gb289, 0, none⟩ = some (.int .i64 0) := (blk_cell BK289.out 0).trans rfl; have hcz86_1 : w85.cell? ⟨gb289, 1, none⟩ = some (.int .i64 0) := (blk_cell BK289.out 1).trans rfl; have hfz86_0 := blk_frozen BK289.out 0; have hfz86_1 := blk_frozen BK289.out 1))
           (try simp only [Act.put, List.setIfInBounds_toArray, List.set_cons_zero, List.set_cons_succ])
           go_cut [136] (fun v136 wc => ∃ (kq : Nat) (x136_81 : Bool), v136 = .bool x136_81 ∧ Aside0 (glebelaw10_DnslBack.j5 kq x7_42 t284 x136_81 = some r) ∧ Aside0 (kq ≤ kj52) ∧ Aside0 (Kd.S k34 34 wc w.heap.size (fun k_ => some k_ ≠ (v285 : Value).ownBlock) (.slice Ao54 x7_42.length co54) x7_42) ∧ Aside0 (Kd.S k34 34 wc w.heap.size (fun k_ => some k_ ≠ ((.slice Ao54 x7_42.length co54) : Value).ownBlock) v285 t284) ∧ Aside0 (Below w.heap.size w wc))
           case first =>
            have H := HC82.out
            clear HC82
            by_cases c87 : t287 = 0
            ·rw [if_pos c87] at H
             have c87b0 : (t287 == 0) = true := beq_iff_eq.mpr c87
             have c87b1 : (t287 != 0) = false := bne_eq_false_iff_eq.mpr c87
             clear c87
             (first | rw [c87b0] | (simp only [i64_w, i32_w]; rw [c87b0]) | rw [c87b1] | skip)
             have H' := Aside0.mk H
             clear H
             have hcz88_0 : w85.cell? ⟨gb289, 0, none⟩ = some (.int .i64 0) := (blk_cell BK289.out 0).trans rfl
             have hcz88_1 : w85.cell? ⟨gb289, 1, none⟩ = some (.int .i64 0) := (blk_cell BK289.out 1).trans rfl
             have hfz88_0 := blk_frozen BK289.out 0
             have hfz88_1 := blk_frozen BK289.out 1
             obtain ⟨Ao89, co89, eo89⟩ := Kd.S_slice HO286.out
             subst eo89
             go_wp2
             go_meet
             case rel => exact ⟨_, (((t284.length : Int) != (x7_42.length : Int))), (by first | rfl | (simp only [i64_w]; done) | (simp; done) | (simp [*]; done)), H', ⟨by have := HK1.out; have := HJ14.out; have := HJ42.out; have := HJ52.out; first | omega | exact Nat.le_refl _⟩, ⟨by (with_reducible repeat (first | apply Kd.S_alloc | apply Kd.S_drewN | apply Kd.S_drew)); exact Kd.S_mono (Kd.S_far (p := ⟨gb289, 1, none⟩) (Kd.S_far (p := ⟨gb289, 0, none⟩) (Kd.S_types HO_7.out BK289.out (by decide)) (fun _ hk => hk.2) (.int .i64 t287)) (fun _ hk => hk.2) (.int .i64 t288)) (fun _ hk => hk.1.2)⟩, ⟨by (with_reducible repeat (first | apply Kd.S_alloc | apply Kd.S_drewN | apply Kd.S_drew)); exact Kd.S_mono (Kd.S_far (p := ⟨gb289, 1, none⟩) (Kd.S_far (p := ⟨gb289, 0, none⟩) (Kd.S_types HO286.out BK289.out (by decide)) (fun _ hk => hk.2) (.int .i64 t287)) (fun _ hk => hk.2) (.int .i64 t288)) (fun _ hk => hk.1.2)⟩, ⟨by repeat (first | (with_reducible first | exact HB.out | apply below_alloc | apply pw_below_drewN | apply below_drew1 | refine below_set ?_ GE289.out) | exact HB.out)⟩⟩
            ·rw [if_neg c87] at H
             have c87b0 : (t287 == 0) = false := beq_eq_false_iff_ne.mpr c87
             have c87b1 : (t287 != 0) = true := bne_iff_ne.mpr c87
             (first | rw [c87b0] | (simp only [i64_w, i32_w]; rw [c87b0]) | rw [c87b1] | skip)
             have H' := Aside0.mk H
             clear H
             have hcz90_0 : w85.cell? ⟨gb289, 0, none⟩ = some (.int .i64 0) := (blk_cell BK289.out 0).trans rfl
             have hcz90_1 : w85.cell? ⟨gb289, 1, none⟩ = some (.int .i64 0) := (blk_cell BK289.out 1).trans rfl
             have hfz90_0 := blk_frozen BK289.out 0
             have hfz90_1 := blk_frozen BK289.out 1
             go_wp2
             go_meet
             case rel => exact ⟨_, (true), (by first | rfl | (simp only [i64_w]; done) | (simp; done) | (simp [*]; done)), H', ⟨by have := HK1.out; have := HJ14.out; have := HJ42.out; have := HJ52.out; first | omega | exact Nat.le_refl _⟩, ⟨by (with_reducible repeat (first | apply Kd.S_alloc | apply Kd.S_drewN | apply Kd.S_drew)); exact Kd.S_mono (Kd.S_far (p := ⟨gb289, 1, none⟩) (Kd.S_far (p := ⟨gb289, 0, none⟩) (Kd.S_types HO_7.out BK289.out (by decide)) (fun _ hk => hk.2) (.int .i64 t287)) (fun _ hk => hk.2) (.int .i64 t288)) (fun _ hk => hk.1.2)⟩, ⟨by (with_reducible repeat (first | apply Kd.S_alloc | apply Kd.S_drewN | apply Kd.S_drew)); exact Kd.S_mono (Kd.S_far (p := ⟨gb289, 1, none⟩) (Kd.S_far (p := ⟨gb289, 0, none⟩) (Kd.S_types HO286.out BK289.out (by decide)) (fun _ hk => hk.2) (.int .i64 t287)) (fun _ hk => hk.2) (.int .i64 t288)) (fun _ hk => hk.1.2)⟩, ⟨by repeat (first | (with_reducible first | exact HB.out | apply below_alloc | apply pw_below_drewN | apply below_drew1 | refine below_set ?_ GE289.out) | exact HB.out)⟩⟩
           case rest =>
            clear HC82
            try clear c1
            try clear p2
            try clear q2
            try clear hx2
            try clear c4
            try clear c5
            try clear c6
            try clear q6
            try clear c7
            try clear q7
            try clear c8
            try clear p24
            try clear q24
            try clear hx24
            try clear p26
            try clear q26
            try clear c56
            try clear c56b0
            try clear c56b1
            try clear c57
            try clear c57b0
            try clear c57b1
            try clear c57b2
            try clear c59
            try clear c59b0
            try clear c59b1
            try clear c60
            try clear c60b0
            try clear c60b1
            try clear c62
            try clear c63
            try clear c64
            try clear c64b0
            try clear c65
            try clear c65b0
            try clear c67
            try clear q69
            try clear c70
            try clear q70
            try clear c87
            try clear c87b0
            try clear c87b1
            try clear hcz86_0
            try clear hcz86_1
            try clear hcz88_0
            try clear hcz88_1
            try clear hcz90_0
            try clear hcz90_1
            try clear hfz14_2
            try clear hfz33_0
            try clear hfz33_1
            try clear hfz33_2
            try clear hfz36_0
            try clear hfz36_1
            try clear hfz36_2
            try clear hfz39_0
            try clear hfz39_1
            try clear hfz39_2
            try clear hfz42_0
            try clear hfz42_1
            try clear hfz42_2
            try clear hfz45_0
            try clear hfz45_1
            try clear hfz45_2
            try clear hfz50_0
            try clear hfz50_1
            try clear hfz50_2
            try clear hfz86_0
            try clear hfz86_1
            try clear hfz88_0
            try clear hfz88_1
            try clear hfz90_0
            try clear hfz90_1
            try clear hx240_0
            try clear hx241_0
            try clear hx242_0
            try clear p2
            try clear p24
            try clear p240
            try clear p241
            try clear p242
            try clear p26
            try clear q070
            try clear q2
            try clear q24
            try clear q240
            try clear q241
            try clear q242
            try clear q26
            try clear q6
            try clear q69
            try clear q7
            try clear q70
            obtain ⟨kq, x136_81, rfl, HA, HJ81, HO_7, HO_15, HB⟩ := hcut
            cases kq with
            | zero => exact absurd HA.out (by simp [glebelaw10_DnslBack.j5])
            | succ kj81 =>
             have H := HA.out
             clear HA
             simp only [glebelaw10_DnslBack.j5] at H
             by_cases c91 : x136_81 = true
             ·subst c91
              have H1 : (none) = some r := by rw [if_pos rfl] at H; exact H
              clear H
              have H := H1
              clear H1
              exact absurd H (by simp)
             ·replace c91 := Bool.eq_false_iff.mpr c91
              subst c91
              have H1 : (glebelaw10_DnslBack.l2 kj81 x7_42 t284 (t284.length : Int) 0) = some r := by rw [if_neg (show ¬ (false = true) by decide)] at H; exact H
              clear H
              have H := H1
              clear H1
              have H' := Aside0.mk H
              clear H
              obtain ⟨Ao92, co92, eo92⟩ := Kd.S_slice HO_15.out
              subst eo92
              go_wp2
              go_loopg [139] kj81 (fun kq v139 w' => ∃ (x139_6 : Int), v139 = .int .i64 x139_6 ∧ Aside0 (glebelaw10_DnslBack.l2 kq x7_42 t284 (t284.length : Int) x139_6 = some r) ∧ Aside0 (kq ≤ kj81) ∧ Aside0 (Kd.S k34 34 w' w.heap.size (fun k_ => some k_ ≠ ((.slice Ao92 t284.length co92) : Value).ownBlock) (.slice Ao54 x7_42.length co54) x7_42) ∧ Aside0 (Kd.S k34 34 w' w.heap.size (fun k_ => some k_ ≠ ((.slice Ao54 x7_42.length co54) : Value).ownBlock) (.slice Ao92 t284.length co92) t284) ∧ Aside0 (Below w.heap.size w w'))
              case atStart => exact ⟨(0), (by first | rfl | (simp only [i64_w]; done) | (simp; done) | (simp [*]; done)), H', ⟨Nat.le_refl _⟩, ⟨by (with_reducible repeat (first | apply Kd.S_alloc | apply Kd.S_drewN | apply Kd.S_drew)); exact HO_7.out⟩, ⟨by (with_reducible repeat (first | apply Kd.S_alloc | apply Kd.S_drewN | apply Kd.S_drew)); exact HO_15.out⟩, ⟨by repeat (first | (with_reducible first | exact HB.out | apply below_alloc | apply pw_below_drewN | apply below_drew1) | exact HB.out)⟩⟩
              case round =>
               clear H'
               try clear c1
               try clear p2
               try clear q2
               try clear hx2
               try clear c4
               try clear c5
               try clear c6
               try clear q6
               try clear c7
               try clear q7
               try clear c8
               try clear c9
               try clear p24
               try clear q24
               try clear hx24
               try clear p26
               try clear q26
               try clear c56
               try clear c56b0
               try clear c56b1
               try clear c57
               try clear c57b0
               try clear c57b1
               try clear c57b2
               try clear c59
               try clear c59b0
               try clear c59b1
               try clear c60
               try clear c60b0
               try clear c60b1
               try clear c62
               try clear c63
               try clear c64
               try clear c64b0
               try clear c65
               try clear c65b0
               try clear c67
               try clear q69
               try clear c70
               try clear q70
               try clear c87
               try clear c87b0
               try clear c87b1
               try clear c91
               try clear hcz86_0
               try clear hcz86_1
               try clear hcz88_0
               try clear hcz88_1
               try clear hcz90_0
               try clear hcz90_1
               try clear hfz14_2
               try clear hfz33_0
               try clear hfz33_1
               try clear hfz33_2
               try clear hfz36_0
               try clear hfz36_1
               try clear hfz36_2
               try clear hfz39_0
               try clear hfz39_1
               try clear hfz39_2
               try clear hfz42_0
               try clear hfz42_1
               try clear hfz42_2
               try clear hfz45_0
               try clear hfz45_1
               try clear hfz45_2
               try clear hfz50_0
               try clear hfz50_1
               try clear hfz50_2
               try clear hfz86_0
               try clear hfz86_1
               try clear hfz88_0
               try clear hfz88_1
               try clear hfz90_0
               try clear hfz90_1
               try clear hx240_0
               try clear hx241_0
               try clear hx242_0
               try clear p2
               try clear p24
               try clear p240
               try clear p241
               try clear p242
               try clear p26
               try clear q070
               try clear q2
               try clear q24
               try clear q240
               try clear q241
               try clear q242
               try clear q26
               try clear q6
               try clear q69
               try clear q7
               try clear q70
               obtain ⟨x139_6, rfl, HA, HK6, HO_7, HO_15, HB⟩ := hrel
               cases gk with
               | zero => exact absurd HA.out (by simp [glebelaw10_DnslBack.l2])
               | succ k6 =>
                have H := HA.out
                clear HA
                simp only [glebelaw10_DnslBack.l2] at H
                by_cases c93 : x139_6 < (t284.length : Int)
                ·rw [if_pos c93] at H
                 have c93b0 : decide (x139_6 < (t284.length : Int)) = true := decide_eq_true c93
                 clear c93
                 have HC94 := Aside0.mk H
                 clear H
                 go_upto_region 27 with (fail)
                 go_cut [167] (fun v167 wc => ∃ (kq : Nat) (x167_93 : Bool), v167 = .bool x167_93 ∧ Aside0 (glebelaw10_DnslBack.j7 kq x7_42 t284 x139_6 (t284.length : Int) x139_6 x167_93 = some r) ∧ Aside0 (kq ≤ k6) ∧ Aside0 (Kd.S k34 34 wc w.heap.size (fun k_ => some k_ ≠ ((.slice Ao92 t284.length co92) : Value).ownBlock) (.slice Ao54 x7_42.length co54) x7_42) ∧ Aside0 (Kd.S k34 34 wc w.heap.size (fun k_ => some k_ ≠ ((.slice Ao54 x7_42.length co54) : Value).ownBlock) (.slice Ao92 t284.length co92) t284) ∧ Aside0 (Below w.heap.size w wc))
                 case first =>
                  have H := HC94.out
                  clear HC94
                  by_cases c95 : 0 ≤ x139_6
                  ·rw [if_pos c95] at H
                   have c95b0 : decide (0 ≤ x139_6) = true := decide_eq_true c95
                   clear c95
                   (first | rw [c95b0] | (simp only [i64_w, i32_w]; rw [c95b0]) | rw [c95b1] | skip)
                   by_cases c96 : x139_6 < (t284.length : Int)
                   ·rw [if_pos c96] at H
                    have c96b0 : decide (x139_6 < (t284.length : Int)) = true := decide_eq_true c96
                    clear c96
                    by_cases c97 : x139_6 < (x7_42.length : Int)
                    ·rw [if_pos c97] at H
                     have c97b0 : decide (x139_6 < (x7_42.length : Int)) = true := decide_eq_true c97
                     clear c97
                     by_cases c98 : ((rd_T34 t284 x139_6).f0).toList = ((rd_T34 x7_42 x139_6).f0).toList
                     ·rw [if_pos c98] at H
                      have c98b0 : (((rd_T34 t284 x139_6).f0).toList == ((rd_T34 x7_42 x139_6).f0).toList) = true := beq_iff_eq.mpr c98
                      have c98b1 : (((rd_T34 t284 x139_6).f0).toList != ((rd_T34 x7_42 x139_6).f0).toList) = false := bne_eq_false_iff_eq.mpr c98
                      clear c98
                      have H' := Aside0.mk H
                      clear H
                      try go_wp2
                      have n0_ := Aside0.mk (Kd.S_drew HO_7.out)
                      have n1_ := Aside0.mk (Kd.S_drew HO_15.out)
                      have n2_ := Aside0.mk (below_drew1 HB.out)
                      clear HO_7
                      clear HO_15
                      clear HB
                      have HO_7 := n0_
                      have HO_15 := n1_
                      have HB := n2_
                      clear n0_ n1_ n2_
                      have p291 : 0 ≤ (x139_6 : Int) := of_decide_eq_true (by first | (with_reducible assumption) | assumption)
                      have q291 : x139_6 < (t284.length : Int) := of_decide_eq_true (by first | (with_reducible assumption) | assumption)
                      obtain ⟨ad291, A291_1, c291_1, e291, hx291_0, hx291_1, hx291_2, hl291_1, hi291_1⟩ := at_T34 (Kd.S_reads' HO_15.out).2.2 x139_6 p291 q291
                      cases e291
                      obtain ⟨ce291, hce291, hMe291, hcc291⟩ := Kd.S_get HO_15.out z34 x139_6 p291 (by first | exact q291 | exact of_decide_eq_true (by first | (with_reducible assumption) | assumption) | (have e_ := (Kd.S_reads' HO_15.out).1; omega))
                      obtain ⟨ve291_1, rfl, ge291_1⟩ := k34_openM hMe291
                      have hv291_1 := hcc291 1 _ rfl
                      rw [add_field _ _ 1 (by omega)] at hv291_1
                      replace hv291_1 := Option.some.inj (hv291_1.symm.trans hx291_1)
                      rw [hv291_1] at ge291_1
                      have HL291_1 := Aside0.mk (show Kd.R k36 36 _ _ _ _ ((rd_T34 t284 x139_6).f1) from ge291_1)
                      clear hv291_1 ge291_1
                      clear hcc291 hce291
                      have HR291_1 := Aside0.mk hi291_1
                      have HC291_1 := Aside0.mk hl291_1
                      clear hi291_1 hl291_1
                      replace p291 := eq_true p291
                      replace q291 := eq_true q291
                      have p292 : 0 ≤ (x139_6 : Int) := of_decide_eq_true (by first | (with_reducible assumption) | assumption)
                      have q292 : x139_6 < (x7_42.length : Int) := of_decide_eq_true (by first | (with_reducible assumption) | assumption)
                      obtain ⟨ad292, A292_1, c292_1, e292, hx292_0, hx292_1, hx292_2, hl292_1, hi292_1⟩ := at_T34 (Kd.S_reads' HO_7.out).2.2 x139_6 p292 q292
                      cases e292
                      obtain ⟨ce292, hce292, hMe292, hcc292⟩ := Kd.S_get HO_7.out z34 x139_6 p292 (by first | exact q292 | exact of_decide_eq_true (by first | (with_reducible assumption) | assumption) | (have e_ := (Kd.S_reads' HO_7.out).1; omega))
                      obtain ⟨ve292_1, rfl, ge292_1⟩ := k34_openM hMe292
                      have hv292_1 := hcc292 1 _ rfl
                      rw [add_field _ _ 1 (by omega)] at hv292_1
                      replace hv292_1 := Option.some.inj (hv292_1.symm.trans hx292_1)
                      rw [hv292_1] at ge292_1
                      have HL292_1 := Aside0.mk (show Kd.R k36 36 _ _ _ _ ((rd_T34 x7_42 x139_6).f1) from ge292_1)
                      clear hv292_1 ge292_1
                      clear hcc292 hce292
                      have HR292_1 := Aside0.mk hi292_1
                      have HC292_1 := Aside0.mk hl292_1
                      clear hi292_1 hl292_1
                      replace p292 := eq_true p292
                      replace q292 := eq_true q292
                      have p293 : 0 ≤ (x139_6 : Int) := of_decide_eq_true (by first | (with_reducible assumption) | assumption)
                      have q293 : x139_6 < (t284.length : Int) := of_decide_eq_true (by first | (with_reducible assumption) | assumption)
                      obtain ⟨ad293, A293_1, c293_1, e293, hx293_0, hx293_1, hx293_2, hl293_1, hi293_1⟩ := at_T34 (Kd.S_reads' HO_15.out).2.2 x139_6 p293 q293
                      obtain rfl : ad291 = ad293 := (by injection e293)
                      obtain ⟨ce293, hce293, hMe293, hcc293⟩ := Kd.S_get HO_15.out z34 x139_6 p293 (by first | exact q293 | exact of_decide_eq_true (by first | (with_reducible assumption) | assumption) | (have e_ := (Kd.S_reads' HO_15.out).1; omega))
                      obtain ⟨ve293_1, rfl, ge293_1⟩ := k34_openM hMe293
                      have hv293_1 := hcc293 1 _ rfl
                      rw [add_field _ _ 1 (by omega)] at hv293_1
                      replace hv293_1 := Option.some.inj (hv293_1.symm.trans hx293_1)
                      rw [hv293_1] at ge293_1
                      have HL293_1 := Aside0.mk (show Kd.R k36 36 _ _ _ _ ((rd_T34 t284 x139_6).f1) from ge293_1)
                      clear hv293_1 ge293_1
                      clear hcc293 hce293
                      have HR293_1 := Aside0.mk hi293_1
                      have HC293_1 := Aside0.mk hl293_1
                      clear hi293_1 hl293_1
                      replace p293 := eq_true p293
                      replace q293 := eq_true q293
                      have ea_ := Option.some.inj (hx291_1.symm.trans hx293_1)
                      injection ea_ with ea_ en_ ec_
                      subst ea_
                      subst ec_
                      clear en_
                      have p294 : 0 ≤ (x139_6 : Int) := of_decide_eq_true (by first | (with_reducible assumption) | assumption)
                      have q294 : x139_6 < (x7_42.length : Int) := of_decide_eq_true (by first | (with_reducible assumption) | assumption)
                      obtain ⟨ad294, A294_1, c294_1, e294, hx294_0, hx294_1, hx294_2, hl294_1, hi294_1⟩ := at_T34 (Kd.S_reads' HO_7.out).2.2 x139_6 p294 q294
                      obtain rfl : ad292 = ad294 := (by injection e294)
                      obtain ⟨ce294, hce294, hMe294, hcc294⟩ := Kd.S_get HO_7.out z34 x139_6 p294 (by first | exact q294 | exact of_decide_eq_true (by first | (with_reducible assumption) | assumption) | (have e_ := (Kd.S_reads' HO_7.out).1; omega))
                      obtain ⟨ve294_1, rfl, ge294_1⟩ := k34_openM hMe294
                      have hv294_1 := hcc294 1 _ rfl
                      rw [add_field _ _ 1 (by omega)] at hv294_1
                      replace hv294_1 := Option.some.inj (hv294_1.symm.trans hx294_1)
                      rw [hv294_1] at ge294_1
                      have HL294_1 := Aside0.mk (show Kd.R k36 36 _ _ _ _ ((rd_T34 x7_42 x139_6).f1) from ge294_1)
                      clear hv294_1 ge294_1
                      clear hcc294 hce294
                      have HR294_1 := Aside0.mk hi294_1
                      have HC294_1 := Aside0.mk hl294_1
                      clear hi294_1 hl294_1
                      replace p294 := eq_true p294
                      replace q294 := eq_true q294
                      have ea_ := Option.some.inj (hx292_1.symm.trans hx294_1)
                      injection ea_ with ea_ en_ ec_
                      subst ea_
                      subst ec_
                      clear en_
                      refine start_ (n := 26) (S := fun w' => w'.cell? (ad291.add ((x139_6).toNat * 3)) = some (.string ((rd_T34 t284 x139_6).f0)) ∧ w'.cell? ⟨(ad291.add ((x139_6).toNat * 3)).block, (ad291.add ((x139_6).toNat * 3)).off + 1, none⟩ = some (.slice A291_1 ((rd_T34 t284 x139_6).f1).length c291_1) ∧ w'.cell? ⟨(ad291.add ((x139_6).toNat * 3)).block, (ad291.add ((x139_6).toNat * 3)).off + 2, none⟩ = some (.int .i64 ((rd_T34 t284 x139_6).f2)) ∧ w'.cell? (ad292.add ((x139_6).toNat * 3)) = some (.string ((rd_T34 x7_42 x139_6).f0)) ∧ w'.cell? ⟨(ad292.add ((x139_6).toNat * 3)).block, (ad292.add ((x139_6).toNat * 3)).off + 1, none⟩ = some (.slice A292_1 ((rd_T34 x7_42 x139_6).f1).length c292_1) ∧ w'.cell? ⟨(ad292.add ((x139_6).toNat * 3)).block, (ad292.add ((x139_6).toNat * 3)).off + 2, none⟩ = some (.int .i64 ((rd_T34 x7_42 x139_6).f2)) ∧ w'.cell? (ad291.add ((x139_6).toNat * 3)) = some (.string ((rd_T34 t284 x139_6).f0)) ∧ w'.cell? ⟨(ad291.add ((x139_6).toNat * 3)).block, (ad291.add ((x139_6).toNat * 3)).off + 1, none⟩ = some (.slice A291_1 ((rd_T34 t284 x139_6).f1).length c291_1) ∧ w'.cell? ⟨(ad291.add ((x139_6).toNat * 3)).block, (ad291.add ((x139_6).toNat * 3)).off + 2, none⟩ = some (.int .i64 ((rd_T34 t284 x139_6).f2)) ∧ w'.cell? (ad292.add ((x139_6).toNat * 3)) = some (.string ((rd_T34 x7_42 x139_6).f0)) ∧ w'.cell? ⟨(ad292.add ((x139_6).toNat * 3)).block, (ad292.add ((x139_6).toNat * 3)).off + 1, none⟩ = some (.slice A292_1 ((rd_T34 x7_42 x139_6).f1).length c292_1) ∧ w'.cell? ⟨(ad292.add ((x139_6).toNat * 3)).block, (ad292.add ((x139_6).toNat * 3)).off + 2, none⟩ = some (.int .i64 ((rd_T34 x7_42 x139_6).f2))) (ds := []) #[false, false, false, false, false, false, false, false, false, false, false, false, false, false, false, false, false, false, false, false, false, false, false, false, false, false] (by kernel_rfl) rfl rfl ⟨hx291_0, hx291_1, hx291_2, hx292_0, hx292_1, hx292_2, hx293_0, hx293_1, hx293_2, hx294_0, hx294_1, hx294_2⟩ (fun hHeld => ?_); refine with_tabW glebelaw10_DnslBack.tab27 glebelaw10_DnslBack.bits27 (fun HT_ HW_ => ?_)
                      generalize wr.drew = w99 at HO_7 HO_15 HB HL291_1 HL292_1 HL293_1 HL294_1 HR291_1 HR292_1 HR293_1 HR294_1 hx291_0 hx291_1 hx291_2 hx292_0 hx292_1 hx292_2 hx293_0 hx293_1 hx293_2 hx294_0 hx294_1 hx294_2 hHeld ⊢
                      refine pure_ (i := 0) (N := some 142) (v := ?_) (a' := ?_) #[true, false, false, false, false, false, false, false, false, false, false, false, false, false, false, false, false, false, false, false, false, false, false, false, false, false] rfl rfl (any_of HT_.out (by kernel_rfl)) (fun _ _ _ h => h) (Or.inl ⟨by rfl, ?_⟩) ?_ ?_
                      rotate_left
                      ·intro w'
                       go_simp
                       with_reducible rfl
                      rotate_left
                      ·simp only [Act.put, List.setIfInBounds_toArray, List.set_cons_zero, List.set_cons_succ, i64_w, i32_w]
                       rfl
                      refine pure_ (i := 1) (N := some 143) (v := ?_) (a' := ?_) #[true, true, false, false, false, false, false, false, false, false, false, false, false, false, false, false, false, false, false, false, false, false, false, false, false, false] rfl rfl (any_of HT_.out (by kernel_rfl)) (fun _ _ _ h => h) (Or.inl ⟨by rfl, ?_⟩) ?_ ?_
                      rotate_left
                      ·intro w'
                       go_simp
                       with_reducible rfl
                      rotate_left
                      ·simp only [Act.put, List.setIfInBounds_toArray, List.set_cons_zero, List.set_cons_succ, i64_w, i32_w]
                       rfl
                      refine pure_ (i := 2) (N := some 144) (v := ?_) (a' := ?_) #[true, true, true, false, false, false, false, false, false, false, false, false, false, false, false, false, false, false, false, false, false, false, false, false, false, false] rfl rfl (any_of HT_.out (by kernel_rfl)) (fun _ _ _ h => h) (Or.inl ⟨by rfl, ?_⟩) ?_ ?_
                      rotate_left
                      ·intro w'
                       go_simp
                       with_reducible rfl
                      rotate_left
                      ·simp only [Act.put, List.setIfInBounds_toArray, List.set_cons_zero, List.set_cons_succ, i64_w, i32_w]
                       rfl
                      refine pure_ (i := 3) (N := some 145) (v := ?_) (a' := ?_) #[true, true, true, true, false, false, false, false, false, false, false, false, false, false, false, false, false, false, false, false, false, false, false, false, false, false] rfl rfl (any_of HT_.out (by kernel_rfl)) (fun _ _ _ h => h) (Or.inl ⟨by rfl, ?_⟩) ?_ ?_
                      rotate_left
                      ·intro w'
                       go_simp
                       with_reducible rfl
                      rotate_left
                      ·simp only [Act.put, List.setIfInBounds_toArray, List.set_cons_zero, List.set_cons_succ, i64_w, i32_w]
                       rfl
                      refine pure_ (i := 5) (N := some 147) (v := ?_) (a' := ?_) #[true, true, true, true, false, true, false, false, false, false, false, false, false, false, false, false, false, false, false, false, false, false, false, false, false, false] rfl rfl (any_of HT_.out (by kernel_rfl)) (fun _ _ _ h => h) (Or.inl ⟨by rfl, ?_⟩) ?_ ?_
                      rotate_left
                      ·intro w'
                       go_simp
                       with_reducible rfl
                      rotate_left
                      ·simp only [Act.put, List.setIfInBounds_toArray, List.set_cons_zero, List.set_cons_succ, i64_w, i32_w]
                       rfl
                      refine pure_ (i := 6) (N := some 148) (v := ?_) (a' := ?_) #[true, true, true, true, false, true, true, false, false, false, false, false, false, false, false, false, false, false, false, false, false, false, false, false, false, false] rfl rfl (any_of HT_.out (by kernel_rfl)) (fun _ _ _ h => h) (Or.inl ⟨by rfl, ?_⟩) ?_ ?_
                      rotate_left
                      ·intro w'
                       go_simp
                       with_reducible rfl
                      rotate_left
                      ·simp only [Act.put, List.setIfInBounds_toArray, List.set_cons_zero, List.set_cons_succ, i64_w, i32_w]
                       rfl
                      refine pure_ (i := 7) (N := some 149) (v := ?_) (a' := ?_) #[true, true, true, true, false, true, true, true, false, false, false, false, false, false, false, false, false, false, false, false, false, false, false, false, false, false] rfl rfl (any_of HT_.out (by kernel_rfl)) (fun _ _ _ h => h) (Or.inl ⟨by rfl, ?_⟩) ?_ ?_
                      rotate_left
                      ·intro w'
                       go_simp
                       with_reducible rfl
                      rotate_left
                      ·simp only [Act.put, List.setIfInBounds_toArray, List.set_cons_zero, List.set_cons_succ, i64_w, i32_w]
                       rfl
                      refine pure_ (i := 8) (N := some 150) (v := ?_) (a' := ?_) #[true, true, true, true, false, true, true, true, true, false, false, false, false, false, false, false, false, false, false, false, false, false, false, false, false, false] rfl rfl (any_of HT_.out (by kernel_rfl)) (fun _ _ _ h => h) (Or.inl ⟨by rfl, ?_⟩) ?_ ?_
                      rotate_left
                      ·intro w'
                       go_simp
                       with_reducible rfl
                      rotate_left
                      ·simp only [Act.put, List.setIfInBounds_toArray, List.set_cons_zero, List.set_cons_succ, i64_w, i32_w]
                       rfl
                      refine take_ (i := 4) (N := some 146) (v := ?_) (a' := ?_) #[true, true, true, true, true, true, true, true, true, false, false, false, false, false, false, false, false, false, false, false, false, false, false, false, false, false] rfl rfl (take_ofW HT_.out HW_.out (by kernel_rfl)) (fun _ _ _ h => h) (Or.inl ⟨by rfl, ?_⟩) hHeld ?_ ?_
                      rotate_left
                      ·rintro w' ⟨s0, s1, s2, s3, s4, s5, s6, s7, s8, s9, s10, s11⟩
                       go_simp
                       with_reducible rfl
                      rotate_left
                      ·simp only [Act.put, List.setIfInBounds_toArray, List.set_cons_zero, List.set_cons_succ, i64_w, i32_w]
                       rfl
                      refine take_ (i := 9) (N := some 151) (v := ?_) (a' := ?_) #[true, true, true, true, true, true, true, true, true, true, false, false, false, false, false, false, false, false, false, false, false, false, false, false, false, false] rfl rfl (take_ofW HT_.out HW_.out (by kernel_rfl)) (fun _ _ _ h => h) (Or.inl ⟨by rfl, ?_⟩) hHeld ?_ ?_
                      rotate_left
                      ·rintro w' ⟨s0, s1, s2, s3, s4, s5, s6, s7, s8, s9, s10, s11⟩
                       go_simp
                       with_reducible rfl
                      rotate_left
                      ·simp only [Act.put, List.setIfInBounds_toArray, List.set_cons_zero, List.set_cons_succ, i64_w, i32_w]
                       rfl
                      refine pure_ (i := 10) (N := some 152) (v := ?_) (a' := ?_) #[true, true, true, true, true, true, true, true, true, true, true, false, false, false, false, false, false, false, false, false, false, false, false, false, false, false] rfl rfl (any_of HT_.out (by kernel_rfl)) (fun _ _ _ h => h) (Or.inl ⟨by rfl, ?_⟩) ?_ ?_
                      rotate_left
                      ·intro w'
                       go_simp
                       with_reducible rfl
                      rotate_left
                      ·simp only [Act.put, List.setIfInBounds_toArray, List.set_cons_zero, List.set_cons_succ, i64_w, i32_w]
                       rfl
                      refine pure_ (i := 11) (N := some 153) (v := ?_) (a' := ?_) #[true, true, true, true, true, true, true, true, true, true, true, true, false, false, false, false, false, false, false, false, false, false, false, false, false, false] rfl rfl (any_of HT_.out (by kernel_rfl)) (fun _ _ _ h => h) (Or.inl ⟨by rfl, ?_⟩) ?_ ?_
                      rotate_left
                      ·intro w'
                       go_simp
                       with_reducible rfl
                      rotate_left
                      ·simp only [Act.put, List.setIfInBounds_toArray, List.set_cons_zero, List.set_cons_succ, i64_w, i32_w]
                       rfl
                      refine pure_ (i := 12) (N := some 154) (v := ?_) (a' := ?_) #[true, true, true, true, true, true, true, true, true, true, true, true, true, false, false, false, false, false, false, false, false, false, false, false, false, false] rfl rfl (any_of HT_.out (by kernel_rfl)) (fun _ _ _ h => h) (Or.inl ⟨by rfl, ?_⟩) ?_ ?_
                      rotate_left
                      ·intro w'
                       go_simp
                       with_reducible rfl
                      rotate_left
                      ·simp only [Act.put, List.setIfInBounds_toArray, List.set_cons_zero, List.set_cons_succ, i64_w, i32_w]
                       rfl
                      refine pure_ (i := 13) (N := some 155) (v := ?_) (a' := ?_) #[true, true, true, true, true, true, true, true, true, true, true, true, true, true, false, false, false, false, false, false, false, false, false, false, false, false] rfl rfl (any_of HT_.out (by kernel_rfl)) (fun _ _ _ h => h) (Or.inl ⟨by rfl, ?_⟩) ?_ ?_
                      rotate_left
                      ·intro w'
                       go_simp
                       with_reducible rfl
                      rotate_left
                      ·simp only [Act.put, List.setIfInBounds_toArray, List.set_cons_zero, List.set_cons_succ, i64_w, i32_w]
                       rfl
                      refine pure_ (i := 14) (N := some 156) (v := ?_) (a' := ?_) #[true, true, true, true, true, true, true, true, true, true, true, true, true, true, true, false, false, false, false, false, false, false, false, false, false, false] rfl rfl (any_of HT_.out (by kernel_rfl)) (fun _ _ _ h => h) (Or.inl ⟨by rfl, ?_⟩) ?_ ?_
                      rotate_left
                      ·intro w'
                       go_simp
                       with_reducible rfl
                      rotate_left
                      ·simp only [Act.put, List.setIfInBounds_toArray, List.set_cons_zero, List.set_cons_succ, i64_w, i32_w]
                       rfl
                      refine pure_ (i := 15) (N := some 157) (v := ?_) (a' := ?_) #[true, true, true, true, true, true, true, true, true, true, true, true, true, true, true, true, false, false, false, false, false, false, false, false, false, false] rfl rfl (any_of HT_.out (by kernel_rfl)) (fun _ _ _ h => h) (Or.inl ⟨by rfl, ?_⟩) ?_ ?_
                      rotate_left
                      ·intro w'
                       go_simp
                       with_reducible rfl
                      rotate_left
                      ·simp only [Act.put, List.setIfInBounds_toArray, List.set_cons_zero, List.set_cons_succ, i64_w, i32_w]
                       rfl
                      refine pure_ (i := 18) (N := some 160) (v := ?_) (a' := ?_) #[true, true, true, true, true, true, true, true, true, true, true, true, true, true, true, true, false, false, true, false, false, false, false, false, false, false] rfl rfl (any_of HT_.out (by kernel_rfl)) (fun _ _ _ h => h) (Or.inl ⟨by rfl, ?_⟩) ?_ ?_
                      rotate_left
                      ·intro w'
                       go_simp
                       with_reducible rfl
                      rotate_left
                      ·simp only [Act.put, List.setIfInBounds_toArray, List.set_cons_zero, List.set_cons_succ, i64_w, i32_w]
                       rfl
                      refine pure_ (i := 19) (N := some 161) (v := ?_) (a' := ?_) #[true, true, true, true, true, true, true, true, true, true, true, true, true, true, true, true, false, false, true, true, false, false, false, false, false, false] rfl rfl (any_of HT_.out (by kernel_rfl)) (fun _ _ _ h => h) (Or.inl ⟨by rfl, ?_⟩) ?_ ?_
                      rotate_left
                      ·intro w'
                       go_simp
                       with_reducible rfl
                      rotate_left
                      ·simp only [Act.put, List.setIfInBounds_toArray, List.set_cons_zero, List.set_cons_succ, i64_w, i32_w]
                       rfl
                      refine pure_ (i := 20) (N := some 162) (v := ?_) (a' := ?_) #[true, true, true, true, true, true, true, true, true, true, true, true, true, true, true, true, false, false, true, true, true, false, false, false, false, false] rfl rfl (any_of HT_.out (by kernel_rfl)) (fun _ _ _ h => h) (Or.inl ⟨by rfl, ?_⟩) ?_ ?_
                      rotate_left
                      ·intro w'
                       go_simp
                       with_reducible rfl
                      rotate_left
                      ·simp only [Act.put, List.setIfInBounds_toArray, List.set_cons_zero, List.set_cons_succ, i64_w, i32_w]
                       rfl
                      refine pure_ (i := 21) (N := some 163) (v := ?_) (a' := ?_) #[true, true, true, true, true, true, true, true, true, true, true, true, true, true, true, true, false, false, true, true, true, true, false, false, false, false] rfl rfl (any_of HT_.out (by kernel_rfl)) (fun _ _ _ h => h) (Or.inl ⟨by rfl, ?_⟩) ?_ ?_
                      rotate_left
                      ·intro w'
                       go_simp
                       with_reducible rfl
                      rotate_left
                      ·simp only [Act.put, List.setIfInBounds_toArray, List.set_cons_zero, List.set_cons_succ, i64_w, i32_w]
                       rfl
                      refine take_ (i := 16) (N := some 158) (v := ?_) (a' := ?_) #[true, true, true, true, true, true, true, true, true, true, true, true, true, true, true, true, true, false, true, true, true, true, false, false, false, false] rfl rfl (take_ofW HT_.out HW_.out (by kernel_rfl)) (fun _ _ _ h => h) (Or.inl ⟨by rfl, ?_⟩) hHeld ?_ ?_
                      rotate_left
                      ·rintro w' ⟨s0, s1, s2, s3, s4, s5, s6, s7, s8, s9, s10, s11⟩
                       go_simp
                       with_reducible rfl
                      rotate_left
                      ·simp only [Act.put, List.setIfInBounds_toArray, List.set_cons_zero, List.set_cons_succ, i64_w, i32_w]
                       rfl
                      refine pure_ (i := 17) (N := some 159) (v := ?_) (a' := ?_) #[true, true, true, true, true, true, true, true, true, true, true, true, true, true, true, true, true, true, true, true, true, true, false, false, false, false] rfl rfl (any_of HT_.out (by kernel_rfl)) (fun _ _ _ h => h) (Or.inl ⟨by rfl, ?_⟩) ?_ ?_
                      rotate_left
                      ·intro w'
                       go_simp
                       with_reducible rfl
                      rotate_left
                      ·simp only [Act.put, List.setIfInBounds_toArray, List.set_cons_zero, List.set_cons_succ, i64_w, i32_w]
                       rfl
                      refine take_ (i := 22) (N := some 164) (v := ?_) (a' := ?_) #[true, true, true, true, true, true, true, true, true, true, true, true, true, true, true, true, true, true, true, true, true, true, true, false, false, false] rfl rfl (take_ofW HT_.out HW_.out (by kernel_rfl)) (fun _ _ _ h => h) (Or.inl ⟨by rfl, ?_⟩) hHeld ?_ ?_
                      rotate_left
                      ·rintro w' ⟨s0, s1, s2, s3, s4, s5, s6, s7, s8, s9, s10, s11⟩
                       go_simp
                       with_reducible rfl
                      rotate_left
                      ·simp only [Act.put, List.setIfInBounds_toArray, List.set_cons_zero, List.set_cons_succ, i64_w, i32_w]
                       rfl
                      refine pure_ (i := 23) (N := some 165) (v := ?_) (a' := ?_) #[true, true, true, true, true, true, true, true, true, true, true, true, true, true, true, true, true, true, true, true, true, true, true, true, false, false] rfl rfl (any_of HT_.out (by kernel_rfl)) (fun _ _ _ h => h) (Or.inl ⟨by rfl, ?_⟩) ?_ ?_
                      rotate_left
                      ·intro w'
                       go_simp
                       with_reducible rfl
                      rotate_left
                      ·simp only [Act.put, List.setIfInBounds_toArray, List.set_cons_zero, List.set_cons_succ, i64_w, i32_w]
                       rfl
                      refine pure_ (i := 24) (N := some 166) (v := ?_) (a' := ?_) #[true, true, true, true, true, true, true, true, true, true, true, true, true, true, true, true, true, true, true, true, true, true, true, true, true, false] rfl rfl (any_of HT_.out (by kernel_rfl)) (fun _ _ _ h => h) (Or.inl ⟨by rfl, ?_⟩) ?_ ?_
                      rotate_left
                      ·intro w'
                       go_simp
                       with_reducible rfl
                      rotate_left
                      ·simp only [Act.put, List.setIfInBounds_toArray, List.set_cons_zero, List.set_cons_succ, i64_w, i32_w]
                       rfl
                      refine pure_ (i := 25) (N := some 167) (v := ?_) (a' := ?_) #[true, true, true, true, true, true, true, true, true, true, true, true, true, true, true, true, true, true, true, true, true, true, true, true, true, true] rfl rfl (any_of HT_.out (by kernel_rfl)) (fun _ _ _ h => h) (Or.inl ⟨by rfl, ?_⟩) ?_ ?_
                      rotate_left
                      ·intro w'
                       go_simp
                       with_reducible rfl
                      rotate_left
                      ·simp only [Act.put, List.setIfInBounds_toArray, List.set_cons_zero, List.set_cons_succ, i64_w, i32_w]
                       rfl
                      refine done_ (done_of HT_.out (by kernel_rfl)) ?_
                      try go_wp2
                      go_meet
                      case rel => exact ⟨_, (((((rd_T34 t284 x139_6).f1).length : Int) != (((rd_T34 x7_42 x139_6).f1).length : Int))), (by first | rfl | (simp only [i64_w]; done) | (simp; done) | (simp [*]; done)), H', ⟨by have := HK1.out; have := HJ14.out; have := HJ42.out; have := HJ52.out; have := HJ81.out; have := HK6.out; first | omega | exact Nat.le_refl _⟩, ⟨by (with_reducible repeat (first | apply Kd.S_alloc | apply Kd.S_drewN | apply Kd.S_drew)); exact HO_7.out⟩, ⟨by (with_reducible repeat (first | apply Kd.S_alloc | apply Kd.S_drewN | apply Kd.S_drew)); exact HO_15.out⟩, ⟨by repeat (first | (with_reducible first | exact HB.out | apply below_alloc | apply pw_below_drewN | apply below_drew1) | exact HB.out)⟩⟩
                     ·rw [if_neg c98] at H
                      have c98b0 : (((rd_T34 t284 x139_6).f0).toList == ((rd_T34 x7_42 x139_6).f0).toList) = false := beq_eq_false_iff_ne.mpr c98
                      have c98b1 : (((rd_T34 t284 x139_6).f0).toList != ((rd_T34 x7_42 x139_6).f0).toList) = true := bne_iff_ne.mpr c98
                      have H' := Aside0.mk H
                      clear H
                      try go_wp2
                      have n0_ := Aside0.mk (Kd.S_drew HO_7.out)
                      have n1_ := Aside0.mk (Kd.S_drew HO_15.out)
                      have n2_ := Aside0.mk (below_drew1 HB.out)
                      clear HO_7
                      clear HO_15
                      clear HB
                      have HO_7 := n0_
                      have HO_15 := n1_
                      have HB := n2_
                      clear n0_ n1_ n2_
                      have p291 : 0 ≤ (x139_6 : Int) := of_decide_eq_true (by first | (with_reducible assumption) | assumption)
                      have q291 : x139_6 < (t284.length : Int) := of_decide_eq_true (by first | (with_reducible assumption) | assumption)
                      obtain ⟨ad291, A291_1, c291_1, e291, hx291_0, hx291_1, hx291_2, hl291_1, hi291_1⟩ := at_T34 (Kd.S_reads' HO_15.out).2.2 x139_6 p291 q291
                      cases e291
                      obtain ⟨ce291, hce291, hMe291, hcc291⟩ := Kd.S_get HO_15.out z34 x139_6 p291 (by first | exact q291 | exact of_decide_eq_true (by first | (with_reducible assumption) | assumption) | (have e_ := (Kd.S_reads' HO_15.out).1; omega))
                      obtain ⟨ve291_1, rfl, ge291_1⟩ := k34_openM hMe291
                      have hv291_1 := hcc291 1 _ rfl
                      rw [add_field _ _ 1 (by omega)] at hv291_1
                      replace hv291_1 := Option.some.inj (hv291_1.symm.trans hx291_1)
                      rw [hv291_1] at ge291_1
                      have HL291_1 := Aside0.mk (show Kd.R k36 36 _ _ _ _ ((rd_T34 t284 x139_6).f1) from ge291_1)
                      clear hv291_1 ge291_1
                      clear hcc291 hce291
                      have HR291_1 := Aside0.mk hi291_1
                      have HC291_1 := Aside0.mk hl291_1
                      clear hi291_1 hl291_1
                      replace p291 := eq_true p291
                      replace q291 := eq_true q291
                      have p292 : 0 ≤ (x139_6 : Int) := of_decide_eq_true (by first | (with_reducible assumption) | assumption)
                      have q292 : x139_6 < (x7_42.length : Int) := of_decide_eq_true (by first | (with_reducible assumption) | assumption)
                      obtain ⟨ad292, A292_1, c292_1, e292, hx292_0, hx292_1, hx292_2, hl292_1, hi292_1⟩ := at_T34 (Kd.S_reads' HO_7.out).2.2 x139_6 p292 q292
                      cases e292
                      obtain ⟨ce292, hce292, hMe292, hcc292⟩ := Kd.S_get HO_7.out z34 x139_6 p292 (by first | exact q292 | exact of_decide_eq_true (by first | (with_reducible assumption) | assumption) | (have e_ := (Kd.S_reads' HO_7.out).1; omega))
                      obtain ⟨ve292_1, rfl, ge292_1⟩ := k34_openM hMe292
                      have hv292_1 := hcc292 1 _ rfl
                      rw [add_field _ _ 1 (by omega)] at hv292_1
                      replace hv292_1 := Option.some.inj (hv292_1.symm.trans hx292_1)
                      rw [hv292_1] at ge292_1
                      have HL292_1 := Aside0.mk (show Kd.R k36 36 _ _ _ _ ((rd_T34 x7_42 x139_6).f1) from ge292_1)
                      clear hv292_1 ge292_1
                      clear hcc292 hce292
                      have HR292_1 := Aside0.mk hi292_1
                      have HC292_1 := Aside0.mk hl292_1
                      clear hi292_1 hl292_1
                      replace p292 := eq_true p292
                      replace q292 := eq_true q292
                      refine start_ (n := 26) (S := fun w' => w'.cell? (ad291.add ((x139_6).toNat * 3)) = some (.string ((rd_T34 t284 x139_6).f0)) ∧ w'.cell? ⟨(ad291.add ((x139_6).toNat * 3)).block, (ad291.add ((x139_6).toNat * 3)).off + 1, none⟩ = some (.slice A291_1 ((rd_T34 t284 x139_6).f1).length c291_1) ∧ w'.cell? ⟨(ad291.add ((x139_6).toNat * 3)).block, (ad291.add ((x139_6).toNat * 3)).off + 2, none⟩ = some (.int .i64 ((rd_T34 t284 x139_6).f2)) ∧ w'.cell? (ad292.add ((x139_6).toNat * 3)) = some (.string ((rd_T34 x7_42 x139_6).f0)) ∧ w'.cell? ⟨(ad292.add ((x139_6).toNat * 3)).block, (ad292.add ((x139_6).toNat * 3)).off + 1, none⟩ = some (.slice A292_1 ((rd_T34 x7_42 x139_6).f1).length c292_1) ∧ w'.cell? ⟨(ad292.add ((x139_6).toNat * 3)).block, (ad292.add ((x139_6).toNat * 3)).off + 2, none⟩ = some (.int .i64 ((rd_T34 x7_42 x139_6).f2))) (ds := []) #[false, false, false, false, false, false, false, false, false, false, false, false, false, false, false, false, false, false, false, false, false, false, false, false, false, false] (by kernel_rfl) rfl rfl ⟨hx291_0, hx291_1, hx291_2, hx292_0, hx292_1, hx292_2⟩ (fun hHeld => ?_); refine with_tabW glebelaw10_DnslBack.tab27 glebelaw10_DnslBack.bits27 (fun HT_ HW_ => ?_)
                      generalize wr.drew = w100 at HO_7 HO_15 HB HL291_1 HL292_1 HR291_1 HR292_1 hx291_0 hx291_1 hx291_2 hx292_0 hx292_1 hx292_2 hHeld ⊢
                      refine pure_ (i := 0) (N := some 142) (v := ?_) (a' := ?_) #[true, false, false, false, false, false, false, false, false, false, false, false, false, false, false, false, false, false, false, false, false, false, false, false, false, false] rfl rfl (any_of HT_.out (by kernel_rfl)) (fun _ _ _ h => h) (Or.inl ⟨by rfl, ?_⟩) ?_ ?_
                      rotate_left
                      ·intro w'
                       go_simp
                       with_reducible rfl
                      rotate_left
                      ·simp only [Act.put, List.setIfInBounds_toArray, List.set_cons_zero, List.set_cons_succ, i64_w, i32_w]
                       rfl
                      refine pure_ (i := 1) (N := some 143) (v := ?_) (a' := ?_) #[true, true, false, false, false, false, false, false, false, false, false, false, false, false, false, false, false, false, false, false, false, false, false, false, false, false] rfl rfl (any_of HT_.out (by kernel_rfl)) (fun _ _ _ h => h) (Or.inl ⟨by rfl, ?_⟩) ?_ ?_
                      rotate_left
                      ·intro w'
                       go_simp
                       with_reducible rfl
                      rotate_left
                      ·simp only [Act.put, List.setIfInBounds_toArray, List.set_cons_zero, List.set_cons_succ, i64_w, i32_w]
                       rfl
                      refine pure_ (i := 2) (N := some 144) (v := ?_) (a' := ?_) #[true, true, true, false, false, false, false, false, false, false, false, false, false, false, false, false, false, false, false, false, false, false, false, false, false, false] rfl rfl (any_of HT_.out (by kernel_rfl)) (fun _ _ _ h => h) (Or.inl ⟨by rfl, ?_⟩) ?_ ?_
                      rotate_left
                      ·intro w'
                       go_simp
                       with_reducible rfl
                      rotate_left
                      ·simp only [Act.put, List.setIfInBounds_toArray, List.set_cons_zero, List.set_cons_succ, i64_w, i32_w]
                       rfl
                      refine pure_ (i := 3) (N := some 145) (v := ?_) (a' := ?_) #[true, true, true, true, false, false, false, false, false, false, false, false, false, false, false, false, false, false, false, false, false, false, false, false, false, false] rfl rfl (any_of HT_.out (by kernel_rfl)) (fun _ _ _ h => h) (Or.inl ⟨by rfl, ?_⟩) ?_ ?_
                      rotate_left
                      ·intro w'
                       go_simp
                       with_reducible rfl
                      rotate_left
                      ·simp only [Act.put, List.setIfInBounds_toArray, List.set_cons_zero, List.set_cons_succ, i64_w, i32_w]
                       rfl
                      refine pure_ (i := 5) (N := some 147) (v := ?_) (a' := ?_) #[true, true, true, true, false, true, false, false, false, false, false, false, false, false, false, false, false, false, false, false, false, false, false, false, false, false] rfl rfl (any_of HT_.out (by kernel_rfl)) (fun _ _ _ h => h) (Or.inl ⟨by rfl, ?_⟩) ?_ ?_
                      rotate_left
                      ·intro w'
                       go_simp
                       with_reducible rfl
                      rotate_left
                      ·simp only [Act.put, List.setIfInBounds_toArray, List.set_cons_zero, List.set_cons_succ, i64_w, i32_w]
                       rfl
                      refine pure_ (i := 6) (N := some 148) (v := ?_) (a' := ?_) #[true, true, true, true, false, true, true, false, false, false, false, false, false, false, false, false, false, false, false, false, false, false, false, false, false, false] rfl rfl (any_of HT_.out (by kernel_rfl)) (fun _ _ _ h => h) (Or.inl ⟨by rfl, ?_⟩) ?_ ?_
                      rotate_left
                      ·intro w'
                       go_simp
                       with_reducible rfl
                      rotate_left
                      ·simp only [Act.put, List.setIfInBounds_toArray, List.set_cons_zero, List.set_cons_succ, i64_w, i32_w]
                       rfl
                      refine pure_ (i := 7) (N := some 149) (v := ?_) (a' := ?_) #[true, true, true, true, false, true, true, true, false, false, false, false, false, false, false, false, false, false, false, false, false, false, false, false, false, false] rfl rfl (any_of HT_.out (by kernel_rfl)) (fun _ _ _ h => h) (Or.inl ⟨by rfl, ?_⟩) ?_ ?_
                      rotate_left
                      ·intro w'
                       go_simp
                       with_reducible rfl
                      rotate_left
                      ·simp only [Act.put, List.setIfInBounds_toArray, List.set_cons_zero, List.set_cons_succ, i64_w, i32_w]
                       rfl
                      refine pure_ (i := 8) (N := some 150) (v := ?_) (a' := ?_) #[true, true, true, true, false, true, true, true, true, false, false, false, false, false, false, false, false, false, false, false, false, false, false, false, false, false] rfl rfl (any_of HT_.out (by kernel_rfl)) (fun _ _ _ h => h) (Or.inl ⟨by rfl, ?_⟩) ?_ ?_
                      rotate_left
                      ·intro w'
                       go_simp
                       with_reducible rfl
                      rotate_left
                      ·simp only [Act.put, List.setIfInBounds_toArray, List.set_cons_zero, List.set_cons_succ, i64_w, i32_w]
                       rfl
                      refine take_ (i := 4) (N := some 146) (v := ?_) (a' := ?_) #[true, true, true, true, true, true, true, true, true, false, false, false, false, false, false, false, false, false, false, false, false, false, false, false, false, false] rfl rfl (take_ofW HT_.out HW_.out (by kernel_rfl)) (fun _ _ _ h => h) (Or.inl ⟨by rfl, ?_⟩) hHeld ?_ ?_
                      rotate_left
                      ·rintro w' ⟨s0, s1, s2, s3, s4, s5⟩
                       go_simp
                       with_reducible rfl
                      rotate_left
                      ·simp only [Act.put, List.setIfInBounds_toArray, List.set_cons_zero, List.set_cons_succ, i64_w, i32_w]
                       rfl
                      refine take_ (i := 9) (N := some 151) (v := ?_) (a' := ?_) #[true, true, true, true, true, true, true, true, true, true, false, false, false, false, false, false, false, false, false, false, false, false, false, false, false, false] rfl rfl (take_ofW HT_.out HW_.out (by kernel_rfl)) (fun _ _ _ h => h) (Or.inl ⟨by rfl, ?_⟩) hHeld ?_ ?_
                      rotate_left
                      ·rintro w' ⟨s0, s1, s2, s3, s4, s5⟩
                       go_simp
                       with_reducible rfl
                      rotate_left
                      ·simp only [Act.put, List.setIfInBounds_toArray, List.set_cons_zero, List.set_cons_succ, i64_w, i32_w]
                       rfl
                      refine pure_ (i := 10) (N := some 152) (v := ?_) (a' := ?_) #[true, true, true, true, true, true, true, true, true, true, true, false, false, false, false, false, false, false, false, false, false, false, false, false, false, false] rfl rfl (any_of HT_.out (by kernel_rfl)) (fun _ _ _ h => h) (Or.inl ⟨by rfl, ?_⟩) ?_ ?_
                      rotate_left
                      ·intro w'
                       go_simp
                       with_reducible rfl
                      rotate_left
                      ·simp only [Act.put, List.setIfInBounds_toArray, List.set_cons_zero, List.set_cons_succ, i64_w, i32_w]
                       rfl
                      refine pure_ (i := 11) (N := some 153) (v := ?_) (a' := ?_) #[true, true, true, true, true, true, true, true, true, true, true, true, false, false, false, false, false, false, false, false, false, false, false, false, false, false] rfl rfl (any_of HT_.out (by kernel_rfl)) (fun _ _ _ h => h) (Or.inl ⟨by rfl, ?_⟩) ?_ ?_
                      rotate_left
                      ·intro w'
                       go_simp
                       with_reducible rfl
                      rotate_left
                      ·simp only [Act.put, List.setIfInBounds_toArray, List.set_cons_zero, List.set_cons_succ, i64_w, i32_w]
                       rfl
                      refine pure_ (i := 12) (N := some 154) (v := undef) (a' := ?_) #[true, true, true, true, true, true, true, true, true, true, true, true, true, false, false, false, false, false, false, false, false, false, false, false, false, false] rfl rfl (any_of HT_.out (by kernel_rfl)) (fun _ _ _ h => h) (Or.inr ⟨by rfl, rfl⟩) ?_ ?_
                      rotate_left
                      ·simp only [Act.put, List.setIfInBounds_toArray, List.set_cons_zero, List.set_cons_succ, i64_w, i32_w]
                       rfl
                      refine pure_ (i := 13) (N := some 155) (v := undef) (a' := ?_) #[true, true, true, true, true, true, true, true, true, true, true, true, true, true, false, false, false, false, false, false, false, false, false, false, false, false] rfl rfl (any_of HT_.out (by kernel_rfl)) (fun _ _ _ h => h) (Or.inr ⟨by rfl, rfl⟩) ?_ ?_
                      rotate_left
                      ·simp only [Act.put, List.setIfInBounds_toArray, List.set_cons_zero, List.set_cons_succ, i64_w, i32_w]
                       rfl
                      refine pure_ (i := 14) (N := some 156) (v := undef) (a' := ?_) #[true, true, true, true, true, true, true, true, true, true, true, true, true, true, true, false, false, false, false, false, false, false, false, false, false, false] rfl rfl (any_of HT_.out (by kernel_rfl)) (fun _ _ _ h => h) (Or.inr ⟨by rfl, rfl⟩) ?_ ?_
                      rotate_left
                      ·simp only [Act.put, List.setIfInBounds_toArray, List.set_cons_zero, List.set_cons_succ, i64_w, i32_w]
                       rfl
                      refine pure_ (i := 15) (N := some 157) (v := undef) (a' := ?_) #[true, true, true, true, true, true, true, true, true, true, true, true, true, true, true, true, false, false, false, false, false, false, false, false, false, false] rfl rfl (any_of HT_.out (by kernel_rfl)) (fun _ _ _ h => h) (Or.inr ⟨by rfl, rfl⟩) ?_ ?_
                      rotate_left
                      ·simp only [Act.put, List.setIfInBounds_toArray, List.set_cons_zero, List.set_cons_succ, i64_w, i32_w]
                       rfl
                      refine pure_ (i := 16) (N := some 158) (v := undef) (a' := ?_) #[true, true, true, true, true, true, true, true, true, true, true, true, true, true, true, true, true, false, false, false, false, false, false, false, false, false] rfl rfl (any_of HT_.out (by kernel_rfl)) (fun _ _ _ h => h) (Or.inr ⟨by rfl, rfl⟩) ?_ ?_
                      rotate_left
                      ·simp only [Act.put, List.setIfInBounds_toArray, List.set_cons_zero, List.set_cons_succ, i64_w, i32_w]
                       rfl
                      refine pure_ (i := 17) (N := some 159) (v := undef) (a' := ?_) #[true, true, true, true, true, true, true, true, true, true, true, true, true, true, true, true, true, true, false, false, false, false, false, false, false, false] rfl rfl (any_of HT_.out (by kernel_rfl)) (fun _ _ _ h => h) (Or.inr ⟨by rfl, rfl⟩) ?_ ?_
                      rotate_left
                      ·simp only [Act.put, List.setIfInBounds_toArray, List.set_cons_zero, List.set_cons_succ, i64_w, i32_w]
                       rfl
                      refine pure_ (i := 18) (N := some 160) (v := undef) (a' := ?_) #[true, true, true, true, true, true, true, true, true, true, true, true, true, true, true, true, true, true, true, false, false, false, false, false, false, false] rfl rfl (any_of HT_.out (by kernel_rfl)) (fun _ _ _ h => h) (Or.inr ⟨by rfl, rfl⟩) ?_ ?_
                      rotate_left
                      ·simp only [Act.put, List.setIfInBounds_toArray, List.set_cons_zero, List.set_cons_succ, i64_w, i32_w]
                       rfl
                      refine pure_ (i := 19) (N := some 161) (v := undef) (a' := ?_) #[true, true, true, true, true, true, true, true, true, true, true, true, true, true, true, true, true, true, true, true, false, false, false, false, false, false] rfl rfl (any_of HT_.out (by kernel_rfl)) (fun _ _ _ h => h) (Or.inr ⟨by rfl, rfl⟩) ?_ ?_
                      rotate_left
                      ·simp only [Act.put, List.setIfInBounds_toArray, List.set_cons_zero, List.set_cons_succ, i64_w, i32_w]
                       rfl
                      refine pure_ (i := 20) (N := some 162) (v := undef) (a' := ?_) #[true, true, true, true, true, true, true, true, true, true, true, true, true, true, true, true, true, true, true, true, true, false, false, false, false, false] rfl rfl (any_of HT_.out (by kernel_rfl)) (fun _ _ _ h => h) (Or.inr ⟨by rfl, rfl⟩) ?_ ?_
                      rotate_left
                      ·simp only [Act.put, List.setIfInBounds_toArray, List.set_cons_zero, List.set_cons_succ, i64_w, i32_w]
                       rfl
                      refine pure_ (i := 21) (N := some 163) (v := undef) (a' := ?_) #[true, true, true, true, true, true, true, true, true, true, true, true, true, true, true, true, true, true, true, true, true, true, false, false, false, false] rfl rfl (any_of HT_.out (by kernel_rfl)) (fun _ _ _ h => h) (Or.inr ⟨by rfl, rfl⟩) ?_ ?_
                      rotate_left
                      ·simp only [Act.put, List.setIfInBounds_toArray, List.set_cons_zero, List.set_cons_succ, i64_w, i32_w]
                       rfl
                      refine pure_ (i := 22) (N := some 164) (v := undef) (a' := ?_) #[true, true, true, true, true, true, true, true, true, true, true, true, true, true, true, true, true, true, true, true, true, true, true, false, false, false] rfl rfl (any_of HT_.out (by kernel_rfl)) (fun _ _ _ h => h) (Or.inr ⟨by rfl, rfl⟩) ?_ ?_
                      rotate_left
                      ·simp only [Act.put, List.setIfInBounds_toArray, List.set_cons_zero, List.set_cons_succ, i64_w, i32_w]
                       rfl
                      refine pure_ (i := 23) (N := some 165) (v := undef) (a' := ?_) #[true, true, true, true, true, true, true, true, true, true, true, true, true, true, true, true, true, true, true, true, true, true, true, true, false, false] rfl rfl (any_of HT_.out (by kernel_rfl)) (fun _ _ _ h => h) (Or.inr ⟨by rfl, rfl⟩) ?_ ?_
                      rotate_left
                      ·simp only [Act.put, List.setIfInBounds_toArray, List.set_cons_zero, List.set_cons_succ, i64_w, i32_w]
                       rfl
                      refine pure_ (i := 24) (N := some 166) (v := undef) (a' := ?_) #[true, true, true, true, true, true, true, true, true, true, true, true, true, true, true, true, true, true, true, true, true, true, true, true, true, false] rfl rfl (any_of HT_.out (by kernel_rfl)) (fun _ _ _ h => h) (Or.inr ⟨by rfl, rfl⟩) ?_ ?_
                      rotate_left
                      ·simp only [Act.put, List.setIfInBounds_toArray, List.set_cons_zero, List.set_cons_succ, i64_w, i32_w]
                       rfl
                      refine pure_ (i := 25) (N := some 167) (v := ?_) (a' := ?_) #[true, true, true, true, true, true, true, true, true, true, true, true, true, true, true, true, true, true, true, true, true, true, true, true, true, true] rfl rfl (any_of HT_.out (by kernel_rfl)) (fun _ _ _ h => h) (Or.inl ⟨by rfl, ?_⟩) ?_ ?_
                      rotate_left
                      ·intro w'
                       go_simp
                       with_reducible rfl
                      rotate_left
                      ·simp only [Act.put, List.setIfInBounds_toArray, List.set_cons_zero, List.set_cons_succ, i64_w, i32_w]
                       rfl
                      refine done_ (done_of HT_.out (by kernel_rfl)) ?_
                      try go_wp2
                      go_meet
                      case rel => exact ⟨_, (true), (by first | rfl | (simp only [i64_w]; done) | (simp; done) | (simp [*]; done)), H', ⟨by have := HK1.out; have := HJ14.out; have := HJ42.out; have := HJ52.out; have := HJ81.out; have := HK6.out; first | omega | exact Nat.le_refl _⟩, ⟨by (with_reducible repeat (first | apply Kd.S_alloc | apply Kd.S_drewN | apply Kd.S_drew)); exact HO_7.out⟩, ⟨by (with_reducible repeat (first | apply Kd.S_alloc | apply Kd.S_drewN | apply Kd.S_drew)); exact HO_15.out⟩, ⟨by repeat (first | (with_reducible first | exact HB.out | apply below_alloc | apply pw_below_drewN | apply below_drew1) | exact HB.out)⟩⟩
                    ·rw [if_neg c97] at H
                     exact absurd H (by simp)
                   ·rw [if_neg c96] at H
                    exact absurd H (by simp)
                  ·rw [if_neg c95] at H
                   exact absurd H (by simp)
                 case rest =>
                  clear HC94
                  try clear c2
                  try clear p2
                  try clear q2
                  try clear hx2
                  try clear q6
                  try clear q7
                  try clear c9
                  try clear p24
                  try clear q24
                  try clear hx24
                  try clear p26
                  try clear q26
                  try clear c29
                  try clear p29
                  try clear q29
                  try clear hx29
                  try clear q69
                  try clear q70
                  try clear c93
                  try clear c93b0
                  try clear c95
                  try clear c95b0
                  try clear c96
                  try clear c96b0
                  try clear c97
                  try clear c97b0
                  try clear c98
                  try clear c98b0
                  try clear c98b1
                  try clear hfz42_2
                  try clear hfz45_0
                  try clear hfz45_1
                  try clear hfz45_2
                  try clear hfz50_0
                  try clear hfz50_1
                  try clear hfz50_2
                  try clear hfz86_0
                  try clear hfz86_1
                  try clear hfz88_0
                  try clear hfz88_1
                  try clear hfz90_0
                  try clear hfz90_1
                  try clear hx240_0
                  try clear hx241_0
                  try clear hx242_0
                  try clear hx291_0
                  try clear hx291_1
                  try clear hx291_2
                  try clear hx292_0
                  try clear hx292_1
                  try clear hx292_2
                  try clear hx293_0
                  try clear hx293_1
                  try clear hx293_2
                  try clear hx294_0
                  try clear hx294_1
                  try clear hx294_2
                  try clear p2
                  try clear p24
                  try clear p240
                  try clear p241
                  try clear p242
                  try clear p26
                  try clear p291
                  try clear p292
                  try clear p293
                  try clear p294
                  try clear q070
                  try clear q2
                  try clear q24
                  try clear q240
                  try clear q241
                  try clear q242
                  try clear q26
                  try clear q291
                  try clear q292
                  try clear q293
                  try clear q294
                  try clear q6
                  try clear q69
                  try clear q7
                  try clear q70
                  obtain ⟨kq, x167_93, rfl, HA, HJ93, HO_7, HO_15, HB⟩ := hcut
                  cases kq with
                  | zero => exact absurd HA.out (by simp [glebelaw10_DnslBack.j7])
                  | succ kj93 =>
                   have H := HA.out
                   clear HA
                   simp only [glebelaw10_DnslBack.j7] at H
                   by_cases c101 : x167_93 = true
                   ·subst c101
                    have H1 : (none) = some r := by rw [if_pos rfl] at H; exact H
                    clear H
                    have H := H1
                    clear H1
                    exact absurd H (by simp)
                   ·replace c101 := Bool.eq_false_iff.mpr c101
                    subst c101
                    have H1 : (if 0 ≤ x139_6 then (if x139_6 < (t284.length : Int) then (glebelaw10_DnslBack.l3 kj93 x7_42 t284 x139_6 (t284.length : Int) x139_6 (((rd_T34 t284 x139_6).f1).length : Int) 0) else (none)) else (none)) = some r := by rw [if_neg (show ¬ (false = true) by decide)] at H; exact H
                    clear H
                    have H := H1
                    clear H1
                    by_cases c102 : 0 ≤ x139_6
                    ·rw [if_pos c102] at H
                     have c102b0 : decide (0 ≤ x139_6) = true := decide_eq_true c102
                     clear c102
                     by_cases c103 : x139_6 < (t284.length : Int)
                     ·rw [if_pos c103] at H
                      have c103b0 : decide (x139_6 < (t284.length : Int)) = true := decide_eq_true c103
                      clear c103
                      have H' := Aside0.mk H
                      clear H
                      have p295 : 0 ≤ (x139_6 : Int) := of_decide_eq_true (by first | (with_reducible assumption) | assumption)
                      have q295 : x139_6 < (t284.length : Int) := of_decide_eq_true (by first | (with_reducible assumption) | assumption)
                      obtain ⟨ad295, A295_1, c295_1, e295, hx295_0, hx295_1, hx295_2, hl295_1, hi295_1⟩ := at_T34 (Kd.S_reads' HO_15.out).2.2 x139_6 p295 q295
                      cases e295
                      obtain ⟨ce295, hce295, hMe295, hcc295⟩ := Kd.S_get HO_15.out z34 x139_6 p295 (by first | exact q295 | exact of_decide_eq_true (by first | (with_reducible assumption) | assumption) | (have e_ := (Kd.S_reads' HO_15.out).1; omega))
                      obtain ⟨ve295_1, rfl, ge295_1⟩ := k34_openM hMe295
                      have hv295_1 := hcc295 1 _ rfl
                      rw [add_field _ _ 1 (by omega)] at hv295_1
                      replace hv295_1 := Option.some.inj (hv295_1.symm.trans hx295_1)
                      rw [hv295_1] at ge295_1
                      have HL295_1 := Aside0.mk (show Kd.R k36 36 _ _ _ _ ((rd_T34 t284 x139_6).f1) from ge295_1)
                      clear hv295_1 ge295_1
                      clear hcc295 hce295
                      have HR295_1 := Aside0.mk hi295_1
                      have HC295_1 := Aside0.mk hl295_1
                      clear hi295_1 hl295_1
                      replace p295 := eq_true p295
                      replace q295 := eq_true q295
                      go_wp2
                      go_loopg [174] kj93 (fun kq v174 w' => ∃ (x174_8 : Int), v174 = .int .i64 x174_8 ∧ Aside0 (glebelaw10_DnslBack.l3 kq x7_42 t284 x139_6 (t284.length : Int) x139_6 (((rd_T34 t284 x139_6).f1).length : Int) x174_8 = some r) ∧ Aside0 (kq ≤ kj93) ∧ Aside0 (Kd.S k34 34 w' w.heap.size (fun k_ => some k_ ≠ ((.slice (some ad295) t284.length co92) : Value).ownBlock) (.slice Ao54 x7_42.length co54) x7_42) ∧ Aside0 (Kd.S k34 34 w' w.heap.size (fun k_ => some k_ ≠ ((.slice Ao54 x7_42.length co54) : Value).ownBlock) (.slice (some ad295) t284.length co92) t284) ∧ Aside0 (Kd.C k36 w' A295_1 ((rd_T34 t284 x139_6).f1).length ((rd_T34 t284 x139_6).f1)) ∧ Aside0 (Below w.heap.size w w'))
                      case atStart => exact ⟨(0), (by first | rfl | (simp only [i64_w]; done) | (simp; done) | (simp [*]; done)), H', ⟨Nat.le_refl _⟩, ⟨by (with_reducible repeat (first | apply Kd.S_alloc | apply Kd.S_drewN | apply Kd.S_drew)); exact HO_7.out⟩, ⟨by (with_reducible repeat (first | apply Kd.S_alloc | apply Kd.S_drewN | apply Kd.S_drew)); exact HO_15.out⟩, ⟨by repeat (first | (with_reducible exact HR295_1.out) | (with_reducible refine Kd.C_alloc ?_ _) | (with_reducible refine Kd.C_drewN ?_ _) | (with_reducible refine Kd.C_drew ?_) | exact HR295_1.out)⟩, ⟨by repeat (first | (with_reducible first | exact HB.out | apply below_alloc | apply pw_below_drewN | apply below_drew1) | exact HB.out)⟩⟩
                      case round =>
                       clear H'
                       try clear c1
                       try clear c2
                       try clear p2
                       try clear q2
                       try clear hx2
                       try clear q6
                       try clear q7
                       try clear c9
                       try clear c10
                       try clear p24
                       try clear q24
                       try clear hx24
                       try clear p26
                       try clear q26
                       try clear c29
                       try clear p29
                       try clear q29
                       try clear hx29
                       try clear q69
                       try clear q70
                       try clear c93
                       try clear c93b0
                       try clear c95
                       try clear c95b0
                       try clear c96
                       try clear c96b0
                       try clear c97
                       try clear c97b0
                       try clear c98
                       try clear c98b0
                       try clear c98b1
                       try clear c101
                       try clear c102
                       try clear c102b0
                       try clear c103
                       try clear c103b0
                       try clear hfz42_2
                       try clear hfz45_0
                       try clear hfz45_1
                       try clear hfz45_2
                       try clear hfz50_0
                       try clear hfz50_1
                       try clear hfz50_2
                       try clear hfz86_0
                       try clear hfz86_1
                       try clear hfz88_0
                       try clear hfz88_1
                       try clear hfz90_0
                       try clear hfz90_1
                       try clear hx240_0
                       try clear hx241_0
                       try clear hx242_0
                       try clear hx291_0
                       try clear hx291_1
                       try clear hx291_2
                       try clear hx292_0
                       try clear hx292_1
                       try clear hx292_2
                       try clear hx293_0
                       try clear hx293_1
                       try clear hx293_2
                       try clear hx294_0
                       try clear hx294_1
                       try clear hx294_2
                       try clear hx295_0
                       try clear hx295_1
                       try clear hx295_2
                       try clear p2
                       try clear p24
                       try clear p240
                       try clear p241
                       try clear p242
                       try clear p26
                       try clear p29
                       try clear p291
                       try clear p292
                       try clear p293
                       try clear p294
                       try clear p295
                       try clear q070
                       try clear q2
                       try clear q24
                       try clear q240
                       try clear q241
                       try clear q242
                       try clear q26
                       try clear q29
                       try clear q291
                       try clear q292
                       try clear q293
                       try clear q294
                       try clear q295
                       try clear q6
                       try clear q69
                       try clear q7
                       try clear q70
                       obtain ⟨x174_8, rfl, HA, HK8, HO_7, HO_15, HR295_1, HB⟩ := hrel
                       cases gk with
                       | zero => exact absurd HA.out (by simp [glebelaw10_DnslBack.l3])
                       | succ k8 =>
                        have H := HA.out
                        clear HA
                        simp only [glebelaw10_DnslBack.l3] at H
                        by_cases c104 : x174_8 < (((rd_T34 t284 x139_6).f1).length : Int)
                        ·rw [if_pos c104] at H
                         have c104b0 : decide (x174_8 < (((rd_T34 t284 x139_6).f1).length : Int)) = true := decide_eq_true c104
                         clear c104
                         by_cases c105 : 0 ≤ x139_6
                         ·rw [if_pos c105] at H
                          have c105b0 : decide (0 ≤ x139_6) = true := decide_eq_true c105
                          clear c105
                          by_cases c106 : x139_6 < (t284.length : Int)
                          ·rw [if_pos c106] at H
                           have c106b0 : decide (x139_6 < (t284.length : Int)) = true := decide_eq_true c106
                           clear c106
                           by_cases c107 : 0 ≤ x174_8
                           ·rw [if_pos c107] at H
                            have c107b0 : decide (0 ≤ x174_8) = true := decide_eq_true c107
                            clear c107
                            by_cases c108 : x174_8 < (((rd_T34 t284 x139_6).f1).length : Int)
                            ·rw [if_pos c108] at H
                             have c108b0 : decide (x174_8 < (((rd_T34 t284 x139_6).f1).length : Int)) = true := decide_eq_true c108
                             clear c108
                             by_cases c109 : x139_6 < (x7_42.length : Int)
                             ·rw [if_pos c109] at H
                              have c109b0 : decide (x139_6 < (x7_42.length : Int)) = true := decide_eq_true c109
                              clear c109
                              by_cases c110 : x174_8 < (((rd_T34 x7_42 x139_6).f1).length : Int)
                              ·rw [if_pos c110] at H
                               have c110b0 : decide (x174_8 < (((rd_T34 x7_42 x139_6).f1).length : Int)) = true := decide_eq_true c110
                               clear c110
                               by_cases c111 : ((rd_T36 ((rd_T34 t284 x139_6).f1) x174_8).f1).toList = ((rd_T36 ((rd_T34 x7_42 x139_6).f1) x174_8).f1).toList
                               ·rw [if_pos c111] at H
                                have c111b0 : (((rd_T36 ((rd_T34 t284 x139_6).f1) x174_8).f1).toList == ((rd_T36 ((rd_T34 x7_42 x139_6).f1) x174_8).f1).toList) = true := beq_iff_eq.mpr c111
                                have c111b1 : (((rd_T36 ((rd_T34 t284 x139_6).f1) x174_8).f1).toList != ((rd_T36 ((rd_T34 x7_42 x139_6).f1) x174_8).f1).toList) = false := bne_eq_false_iff_eq.mpr c111
                                clear c111
                                have H' := Aside0.mk H
                                clear H
                                try go_wp2
                                have n0_ := Aside0.mk (Kd.S_drew HO_7.out)
                                have n1_ := Aside0.mk (Kd.S_drew HO_15.out)
                                have n2_ := Aside0.mk (Kd.C_drew HR295_1.out)
                                have n3_ := Aside0.mk (below_drew1 HB.out)
                                clear HO_7
                                clear HO_15
                                clear HR295_1
                                clear HB
                                have HO_7 := n0_
                                have HO_15 := n1_
                                have HR295_1 := n2_
                                have HB := n3_
                                clear n0_ n1_ n2_ n3_
                                have p296 : 0 ≤ (x139_6 : Int) := of_decide_eq_true (by first | (with_reducible assumption) | assumption)
                                have q296 : x139_6 < (t284.length : Int) := of_decide_eq_true (by first | (with_reducible assumption) | assumption)
                                obtain ⟨ad296, A296_1, c296_1, e296, hx296_0, hx296_1, hx296_2, hl296_1, hi296_1⟩ := at_T34 (Kd.S_reads' HO_15.out).2.2 x139_6 p296 q296
                                obtain rfl : ad295 = ad296 := (by injection e296)
                                obtain ⟨ce296, hce296, hMe296, hcc296⟩ := Kd.S_get HO_15.out z34 x139_6 p296 (by first | exact q296 | exact of_decide_eq_true (by first | (with_reducible assumption) | assumption) | (have e_ := (Kd.S_reads' HO_15.out).1; omega))
                                obtain ⟨ve296_1, rfl, ge296_1⟩ := k34_openM hMe296
                                have hv296_1 := hcc296 1 _ rfl
                                rw [add_field _ _ 1 (by omega)] at hv296_1
                                replace hv296_1 := Option.some.inj (hv296_1.symm.trans hx296_1)
                                rw [hv296_1] at ge296_1
                                have HL296_1 := Aside0.mk (show Kd.R k36 36 _ _ _ _ ((rd_T34 t284 x139_6).f1) from ge296_1)
                                clear hv296_1 ge296_1
                                clear hcc296 hce296
                                have HR296_1 := Aside0.mk hi296_1
                                have HC296_1 := Aside0.mk hl296_1
                                clear hi296_1 hl296_1
                                replace p296 := eq_true p296
                                replace q296 := eq_true q296
                                have p297 : 0 ≤ (x174_8 : Int) := of_decide_eq_true (by first | (with_reducible assumption) | assumption)
                                have q297 : x174_8 < (((rd_T34 t284 x139_6).f1).length : Int) := of_decide_eq_true (by first | (with_reducible assumption) | assumption)
                                obtain ⟨ad297, e297, hx297_0, hx297_1, hx297_2⟩ := at_T36 (by repeat (first | (with_reducible exact HR296_1.out) | (with_reducible refine Kd.C_alloc ?_ _) | (with_reducible refine Kd.C_drewN ?_ _) | (with_reducible refine Kd.C_drew ?_) | exact HR296_1.out)) x174_8 p297 q297
                                cases e297
                                replace p297 := eq_true p297
                                replace q297 := eq_true q297
                                have p298 : 0 ≤ (x139_6 : Int) := of_decide_eq_true (by first | (with_reducible assumption) | assumption)
                                have q298 : x139_6 < (x7_42.length : Int) := of_decide_eq_true (by first | (with_reducible assumption) | assumption)
                                obtain ⟨ad298, A298_1, c298_1, e298, hx298_0, hx298_1, hx298_2, hl298_1, hi298_1⟩ := at_T34 (Kd.S_reads' HO_7.out).2.2 x139_6 p298 q298
                                cases e298
                                obtain ⟨ce298, hce298, hMe298, hcc298⟩ := Kd.S_get HO_7.out z34 x139_6 p298 (by first | exact q298 | exact of_decide_eq_true (by first | (with_reducible assumption) | assumption) | (have e_ := (Kd.S_reads' HO_7.out).1; omega))
                                obtain ⟨ve298_1, rfl, ge298_1⟩ := k34_openM hMe298
                                have hv298_1 := hcc298 1 _ rfl
                                rw [add_field _ _ 1 (by omega)] at hv298_1
                                replace hv298_1 := Option.some.inj (hv298_1.symm.trans hx298_1)
                                rw [hv298_1] at ge298_1
                                have HL298_1 := Aside0.mk (show Kd.R k36 36 _ _ _ _ ((rd_T34 x7_42 x139_6).f1) from ge298_1)
                                clear hv298_1 ge298_1
                                clear hcc298 hce298
                                have HR298_1 := Aside0.mk hi298_1
                                have HC298_1 := Aside0.mk hl298_1
                                clear hi298_1 hl298_1
                                replace p298 := eq_true p298
                                replace q298 := eq_true q298
                                have p299 : 0 ≤ (x174_8 : Int) := of_decide_eq_true (by first | (with_reducible assumption) | assumption)
                                have q299 : x174_8 < (((rd_T34 x7_42 x139_6).f1).length : Int) := of_decide_eq_true (by first | (with_reducible assumption) | assumption)
                                obtain ⟨ad299, e299, hx299_0, hx299_1, hx299_2⟩ := at_T36 (by repeat (first | (with_reducible exact HR298_1.out) | (with_reducible refine Kd.C_alloc ?_ _) | (with_reducible refine Kd.C_drewN ?_ _) | (with_reducible refine Kd.C_drew ?_) | exact HR298_1.out)) x174_8 p299 q299
                                cases e299
                                replace p299 := eq_true p299
                                replace q299 := eq_true q299
                                refine start_ (n := 19) (S := fun w' => w'.cell? (ad295.add ((x139_6).toNat * 3)) = some (.string ((rd_T34 t284 x139_6).f0)) ∧ w'.cell? ⟨(ad295.add ((x139_6).toNat * 3)).block, (ad295.add ((x139_6).toNat * 3)).off + 1, none⟩ = some (.slice (some ad297) ((rd_T34 t284 x139_6).f1).length c296_1) ∧ w'.cell? ⟨(ad295.add ((x139_6).toNat * 3)).block, (ad295.add ((x139_6).toNat * 3)).off + 2, none⟩ = some (.int .i64 ((rd_T34 t284 x139_6).f2)) ∧ w'.cell? (ad297.add ((x174_8).toNat * 3)) = some (.int .i64 ((rd_T36 ((rd_T34 t284 x139_6).f1) x174_8).f0)) ∧ w'.cell? ⟨(ad297.add ((x174_8).toNat * 3)).block, (ad297.add ((x174_8).toNat * 3)).off + 1, none⟩ = some (.string ((rd_T36 ((rd_T34 t284 x139_6).f1) x174_8).f1)) ∧ w'.cell? ⟨(ad297.add ((x174_8).toNat * 3)).block, (ad297.add ((x174_8).toNat * 3)).off + 2, none⟩ = some (.int .i64 ((rd_T36 ((rd_T34 t284 x139_6).f1) x174_8).f2)) ∧ w'.cell? (ad298.add ((x139_6).toNat * 3)) = some (.string ((rd_T34 x7_42 x139_6).f0)) ∧ w'.cell? ⟨(ad298.add ((x139_6).toNat * 3)).block, (ad298.add ((x139_6).toNat * 3)).off + 1, none⟩ = some (.slice (some ad299) ((rd_T34 x7_42 x139_6).f1).length c298_1) ∧ w'.cell? ⟨(ad298.add ((x139_6).toNat * 3)).block, (ad298.add ((x139_6).toNat * 3)).off + 2, none⟩ = some (.int .i64 ((rd_T34 x7_42 x139_6).f2)) ∧ w'.cell? (ad299.add ((x174_8).toNat * 3)) = some (.int .i64 ((rd_T36 ((rd_T34 x7_42 x139_6).f1) x174_8).f0)) ∧ w'.cell? ⟨(ad299.add ((x174_8).toNat * 3)).block, (ad299.add ((x174_8).toNat * 3)).off + 1, none⟩ = some (.string ((rd_T36 ((rd_T34 x7_42 x139_6).f1) x174_8).f1)) ∧ w'.cell? ⟨(ad299.add ((x174_8).toNat * 3)).block, (ad299.add ((x174_8).toNat * 3)).off + 2, none⟩ = some (.int .i64 ((rd_T36 ((rd_T34 x7_42 x139_6).f1) x174_8).f2))) (ds := []) #[false, false, false, false, false, false, false, false, false, false, false, false, false, false, false, false, false, false, false] (by kernel_rfl) rfl rfl ⟨hx296_0, hx296_1, hx296_2, hx297_0, hx297_1, hx297_2, hx298_0, hx298_1, hx298_2, hx299_0, hx299_1, hx299_2⟩ (fun hHeld => ?_); refine with_tabW glebelaw10_DnslBack.tab32 glebelaw10_DnslBack.bits32 (fun HT_ HW_ => ?_)
                                generalize wr.drew = w112 at HO_7 HO_15 HR295_1 HB HL296_1 HL298_1 HR296_1 HR298_1 hx296_0 hx296_1 hx296_2 hx297_0 hx297_1 hx297_2 hx298_0 hx298_1 hx298_2 hx299_0 hx299_1 hx299_2 hHeld ⊢
                                refine pure_ (i := 0) (N := some 177) (v := ?_) (a' := ?_) #[true, false, false, false, false, false, false, false, false, false, false, false, false, false, false, false, false, false, false] rfl rfl (any_of HT_.out (by kernel_rfl)) (fun _ _ _ h => h) (Or.inl ⟨by rfl, ?_⟩) ?_ ?_
                                rotate_left
                                ·intro w'
                                 go_simp
                                 with_reducible rfl
                                rotate_left
                                ·simp only [Act.put, List.setIfInBounds_toArray, List.set_cons_zero, List.set_cons_succ, i64_w, i32_w]
                                 rfl
                                refine pure_ (i := 1) (N := some 178) (v := ?_) (a' := ?_) #[true, true, false, false, false, false, false, false, false, false, false, false, false, false, false, false, false, false, false] rfl rfl (any_of HT_.out (by kernel_rfl)) (fun _ _ _ h => h) (Or.inl ⟨by rfl, ?_⟩) ?_ ?_
                                rotate_left
                                ·intro w'
                                 go_simp
                                 with_reducible rfl
                                rotate_left
                                ·simp only [Act.put, List.setIfInBounds_toArray, List.set_cons_zero, List.set_cons_succ, i64_w, i32_w]
                                 rfl
                                refine pure_ (i := 2) (N := some 179) (v := ?_) (a' := ?_) #[true, true, true, false, false, false, false, false, false, false, false, false, false, false, false, false, false, false, false] rfl rfl (any_of HT_.out (by kernel_rfl)) (fun _ _ _ h => h) (Or.inl ⟨by rfl, ?_⟩) ?_ ?_
                                rotate_left
                                ·intro w'
                                 go_simp
                                 with_reducible rfl
                                rotate_left
                                ·simp only [Act.put, List.setIfInBounds_toArray, List.set_cons_zero, List.set_cons_succ, i64_w, i32_w]
                                 rfl
                                refine pure_ (i := 3) (N := some 180) (v := ?_) (a' := ?_) #[true, true, true, true, false, false, false, false, false, false, false, false, false, false, false, false, false, false, false] rfl rfl (any_of HT_.out (by kernel_rfl)) (fun _ _ _ h => h) (Or.inl ⟨by rfl, ?_⟩) ?_ ?_
                                rotate_left
                                ·intro w'
                                 go_simp
                                 with_reducible rfl
                                rotate_left
                                ·simp only [Act.put, List.setIfInBounds_toArray, List.set_cons_zero, List.set_cons_succ, i64_w, i32_w]
                                 rfl
                                refine pure_ (i := 5) (N := some 182) (v := ?_) (a' := ?_) #[true, true, true, true, false, true, false, false, false, false, false, false, false, false, false, false, false, false, false] rfl rfl (any_of HT_.out (by kernel_rfl)) (fun _ _ _ h => h) (Or.inl ⟨by rfl, ?_⟩) ?_ ?_
                                rotate_left
                                ·intro w'
                                 go_simp
                                 with_reducible rfl
                                rotate_left
                                ·simp only [Act.put, List.setIfInBounds_toArray, List.set_cons_zero, List.set_cons_succ, i64_w, i32_w]
                                 rfl
                                refine pure_ (i := 9) (N := some 186) (v := ?_) (a' := ?_) #[true, true, true, true, false, true, false, false, false, true, false, false, false, false, false, false, false, false, false] rfl rfl (any_of HT_.out (by kernel_rfl)) (fun _ _ _ h => h) (Or.inl ⟨by rfl, ?_⟩) ?_ ?_
                                rotate_left
                                ·intro w'
                                 go_simp
                                 with_reducible rfl
                                rotate_left
                                ·simp only [Act.put, List.setIfInBounds_toArray, List.set_cons_zero, List.set_cons_succ, i64_w, i32_w]
                                 rfl
                                refine pure_ (i := 10) (N := some 187) (v := ?_) (a' := ?_) #[true, true, true, true, false, true, false, false, false, true, true, false, false, false, false, false, false, false, false] rfl rfl (any_of HT_.out (by kernel_rfl)) (fun _ _ _ h => h) (Or.inl ⟨by rfl, ?_⟩) ?_ ?_
                                rotate_left
                                ·intro w'
                                 go_simp
                                 with_reducible rfl
                                rotate_left
                                ·simp only [Act.put, List.setIfInBounds_toArray, List.set_cons_zero, List.set_cons_succ, i64_w, i32_w]
                                 rfl
                                refine pure_ (i := 11) (N := some 188) (v := ?_) (a' := ?_) #[true, true, true, true, false, true, false, false, false, true, true, true, false, false, false, false, false, false, false] rfl rfl (any_of HT_.out (by kernel_rfl)) (fun _ _ _ h => h) (Or.inl ⟨by rfl, ?_⟩) ?_ ?_
                                rotate_left
                                ·intro w'
                                 go_simp
                                 with_reducible rfl
                                rotate_left
                                ·simp only [Act.put, List.setIfInBounds_toArray, List.set_cons_zero, List.set_cons_succ, i64_w, i32_w]
                                 rfl
                                refine pure_ (i := 12) (N := some 189) (v := ?_) (a' := ?_) #[true, true, true, true, false, true, false, false, false, true, true, true, true, false, false, false, false, false, false] rfl rfl (any_of HT_.out (by kernel_rfl)) (fun _ _ _ h => h) (Or.inl ⟨by rfl, ?_⟩) ?_ ?_
                                rotate_left
                                ·intro w'
                                 go_simp
                                 with_reducible rfl
                                rotate_left
                                ·simp only [Act.put, List.setIfInBounds_toArray, List.set_cons_zero, List.set_cons_succ, i64_w, i32_w]
                                 rfl
                                refine pure_ (i := 14) (N := some 191) (v := ?_) (a' := ?_) #[true, true, true, true, false, true, false, false, false, true, true, true, true, false, true, false, false, false, false] rfl rfl (any_of HT_.out (by kernel_rfl)) (fun _ _ _ h => h) (Or.inl ⟨by rfl, ?_⟩) ?_ ?_
                                rotate_left
                                ·intro w'
                                 go_simp
                                 with_reducible rfl
                                rotate_left
                                ·simp only [Act.put, List.setIfInBounds_toArray, List.set_cons_zero, List.set_cons_succ, i64_w, i32_w]
                                 rfl
                                refine take_ (i := 4) (N := some 181) (v := ?_) (a' := ?_) #[true, true, true, true, true, true, false, false, false, true, true, true, true, false, true, false, false, false, false] rfl rfl (take_ofW HT_.out HW_.out (by kernel_rfl)) (fun _ _ _ h => h) (Or.inl ⟨by rfl, ?_⟩) hHeld ?_ ?_
                                rotate_left
                                ·rintro w' ⟨s0, s1, s2, s3, s4, s5, s6, s7, s8, s9, s10, s11⟩
                                 go_simp
                                 with_reducible rfl
                                rotate_left
                                ·simp only [Act.put, List.setIfInBounds_toArray, List.set_cons_zero, List.set_cons_succ, i64_w, i32_w]
                                 rfl
                                refine pure_ (i := 6) (N := some 183) (v := ?_) (a' := ?_) #[true, true, true, true, true, true, true, false, false, true, true, true, true, false, true, false, false, false, false] rfl rfl (any_of HT_.out (by kernel_rfl)) (fun _ _ _ h => h) (Or.inl ⟨by rfl, ?_⟩) ?_ ?_
                                rotate_left
                                ·intro w'
                                 go_simp
                                 with_reducible rfl
                                rotate_left
                                ·simp only [Act.put, List.setIfInBounds_toArray, List.set_cons_zero, List.set_cons_succ, i64_w, i32_w]
                                 rfl
                                refine pure_ (i := 7) (N := some 184) (v := ?_) (a' := ?_) #[true, true, true, true, true, true, true, true, false, true, true, true, true, false, true, false, false, false, false] rfl rfl (any_of HT_.out (by kernel_rfl)) (fun _ _ _ h => h) (Or.inl ⟨by rfl, ?_⟩) ?_ ?_
                                rotate_left
                                ·intro w'
                                 go_simp
                                 with_reducible rfl
                                rotate_left
                                ·simp only [Act.put, List.setIfInBounds_toArray, List.set_cons_zero, List.set_cons_succ, i64_w, i32_w]
                                 rfl
                                refine take_ (i := 8) (N := some 185) (v := ?_) (a' := ?_) #[true, true, true, true, true, true, true, true, true, true, true, true, true, false, true, false, false, false, false] rfl rfl (take_ofW HT_.out HW_.out (by kernel_rfl)) (fun _ _ _ h => h) (Or.inl ⟨by rfl, ?_⟩) hHeld ?_ ?_
                                rotate_left
                                ·rintro w' ⟨s0, s1, s2, s3, s4, s5, s6, s7, s8, s9, s10, s11⟩
                                 go_simp
                                 with_reducible rfl
                                rotate_left
                                ·simp only [Act.put, List.setIfInBounds_toArray, List.set_cons_zero, List.set_cons_succ, i64_w, i32_w]
                                 rfl
                                refine take_ (i := 13) (N := some 190) (v := ?_) (a' := ?_) #[true, true, true, true, true, true, true, true, true, true, true, true, true, true, true, false, false, false, false] rfl rfl (take_ofW HT_.out HW_.out (by kernel_rfl)) (fun _ _ _ h => h) (Or.inl ⟨by rfl, ?_⟩) hHeld ?_ ?_
                                rotate_left
                                ·rintro w' ⟨s0, s1, s2, s3, s4, s5, s6, s7, s8, s9, s10, s11⟩
                                 go_simp
                                 with_reducible rfl
                                rotate_left
                                ·simp only [Act.put, List.setIfInBounds_toArray, List.set_cons_zero, List.set_cons_succ, i64_w, i32_w]
                                 rfl
                                refine pure_ (i := 15) (N := some 192) (v := ?_) (a' := ?_) #[true, true, true, true, true, true, true, true, true, true, true, true, true, true, true, true, false, false, false] rfl rfl (any_of HT_.out (by kernel_rfl)) (fun _ _ _ h => h) (Or.inl ⟨by rfl, ?_⟩) ?_ ?_
                                rotate_left
                                ·intro w'
                                 go_simp
                                 with_reducible rfl
                                rotate_left
                                ·simp only [Act.put, List.setIfInBounds_toArray, List.set_cons_zero, List.set_cons_succ, i64_w, i32_w]
                                 rfl
                                refine pure_ (i := 16) (N := some 193) (v := ?_) (a' := ?_) #[true, true, true, true, true, true, true, true, true, true, true, true, true, true, true, true, true, false, false] rfl rfl (any_of HT_.out (by kernel_rfl)) (fun _ _ _ h => h) (Or.inl ⟨by rfl, ?_⟩) ?_ ?_
                                rotate_left
                                ·intro w'
                                 go_simp
                                 with_reducible rfl
                                rotate_left
                                ·simp only [Act.put, List.setIfInBounds_toArray, List.set_cons_zero, List.set_cons_succ, i64_w, i32_w]
                                 rfl
                                refine take_ (i := 17) (N := some 194) (v := ?_) (a' := ?_) #[true, true, true, true, true, true, true, true, true, true, true, true, true, true, true, true, true, true, false] rfl rfl (take_ofW HT_.out HW_.out (by kernel_rfl)) (fun _ _ _ h => h) (Or.inl ⟨by rfl, ?_⟩) hHeld ?_ ?_
                                rotate_left
                                ·rintro w' ⟨s0, s1, s2, s3, s4, s5, s6, s7, s8, s9, s10, s11⟩
                                 go_simp
                                 with_reducible rfl
                                rotate_left
                                ·simp only [Act.put, List.setIfInBounds_toArray, List.set_cons_zero, List.set_cons_succ, i64_w, i32_w]
                                 rfl
                                refine pure_ (i := 18) (N := some 195) (v := ?_) (a' := ?_) #[true, true, true, true, true, true, true, true, true, true, true, true, true, true, true, true, true, true, true] rfl rfl (any_of HT_.out (by kernel_rfl)) (fun _ _ _ h => h) (Or.inl ⟨by rfl, ?_⟩) ?_ ?_
                                rotate_left
                                ·intro w'
                                 go_simp
                                 with_reducible rfl
                                rotate_left
                                ·simp only [Act.put, List.setIfInBounds_toArray, List.set_cons_zero, List.set_cons_succ, i64_w, i32_w]
                                 rfl
                                refine done_ (done_of HT_.out (by kernel_rfl)) ?_
                                try go_wp2
                                go_roundg k8
                                case measure => have := HK1.out; have := HJ14.out; have := HJ42.out; have := HJ52.out; have := HJ81.out; have := HK6.out; have := HJ93.out; have := HK8.out; omega
                                case rel => exact ⟨(wrap64 (x174_8 + 1)), (by first | rfl | (simp only [i64_w]; done) | (simp; done) | (simp [*]; done)), H', ⟨by have := HK1.out; have := HJ14.out; have := HJ42.out; have := HJ52.out; have := HJ81.out; have := HK6.out; have := HJ93.out; have := HK8.out; omega⟩, ⟨by (with_reducible repeat (first | apply Kd.S_alloc | apply Kd.S_drewN | apply Kd.S_drew)); exact HO_7.out⟩, ⟨by (with_reducible repeat (first | apply Kd.S_alloc | apply Kd.S_drewN | apply Kd.S_drew)); exact HO_15.out⟩, ⟨by repeat (first | (with_reducible exact HR295_1.out) | (with_reducible refine Kd.C_alloc ?_ _) | (with_reducible refine Kd.C_drewN ?_ _) | (with_reducible refine Kd.C_drew ?_) | exact HR295_1.out)⟩, ⟨by repeat (first | (with_reducible first | exact HB.out | apply below_alloc | apply pw_below_drewN | apply below_drew1) | exact HB.out)⟩⟩
                               ·rw [if_neg c111] at H
                                exact absurd H (by simp)
                              ·rw [if_neg c110] at H
                               exact absurd H (by simp)
                             ·rw [if_neg c109] at H
                              exact absurd H (by simp)
                            ·rw [if_neg c108] at H
                             exact absurd H (by simp)
                           ·rw [if_neg c107] at H
                            exact absurd H (by simp)
                          ·rw [if_neg c106] at H
                           exact absurd H (by simp)
                         ·rw [if_neg c105] at H
                          exact absurd H (by simp)
                        ·rw [if_neg c104] at H
                         have c104b0 : decide (x174_8 < (((rd_T34 t284 x139_6).f1).length : Int)) = false := decide_eq_false c104
                         clear c104
                         have H' := Aside0.mk H
                         clear H
                         go_wp2
                         go_roundg k8
                         case measure => have := HK1.out; have := HJ14.out; have := HJ42.out; have := HJ52.out; have := HJ81.out; have := HK6.out; have := HJ93.out; have := HK8.out; omega
                         case rel => exact ⟨(wrap64 (x139_6 + 1)), (by first | rfl | (simp only [i64_w]; done) | (simp; done) | (simp [*]; done)), H', ⟨by have := HK1.out; have := HJ14.out; have := HJ42.out; have := HJ52.out; have := HJ81.out; have := HK6.out; have := HJ93.out; have := HK8.out; omega⟩, ⟨by (with_reducible repeat (first | apply Kd.S_alloc | apply Kd.S_drewN | apply Kd.S_drew)); exact HO_7.out⟩, ⟨by (with_reducible repeat (first | apply Kd.S_alloc | apply Kd.S_drewN | apply Kd.S_drew)); exact HO_15.out⟩, ⟨by repeat (first | (with_reducible first | exact HB.out | apply below_alloc | apply pw_below_drewN | apply below_drew1) | exact HB.out)⟩⟩
                     ·rw [if_neg c103] at H
                      exact absurd H (by simp)
                    ·rw [if_neg c102] at H
                     exact absurd H (by simp)
                ·rw [if_neg c93] at H
                 have c93b0 : decide (x139_6 < (t284.length : Int)) = false := decide_eq_false c93
                 clear c93
                 replace H := Option.bind_eq_some_iff.mp H
                 obtain ⟨t290, A1130, H⟩ := H
                 replace H : (some t290) = some r := H
                 have A113 := Aside0.mk A1130
                 clear A1130
                 obtain rfl := Option.some.inj H
                 go_wp2_with (first | ((with_reducible refine gate_callee (f := 6) rfl ?_); refine goesL_ (some 198) rfl rfl Try.func6 (by kernel_rfl) rfl #[] rfl (by (try simp only [List.map_toArray, List.map_cons, List.map_nil]); first | done | rfl | (simp only [List.length_drop, List.length_take]; rfl)) ?_; (with_reducible refine (glebelaw10_awake.calls k6  t290 _ A113.out).mono ?_); rintro e w114 ⟨rfl, hb⟩; refine ⟨_, rfl, ?_⟩; have n0_ := Aside0.mk (Kd.S_below (by (with_reducible repeat (first | apply Kd.S_alloc | apply Kd.S_drewN | apply Kd.S_drew)); exact HO_7.out) hb); have n1_ := Aside0.mk (Kd.S_below (by (with_reducible repeat (first | apply Kd.S_alloc | apply Kd.S_drewN | apply Kd.S_drew)); exact HO_15.out) hb); have n2_ := Aside0.mk (below_step (by repeat (first | (with_reducible first | exact HB.out | apply below_alloc | apply pw_below_drewN | apply below_drew1) | exact HB.out)) hb); clear HO_7; clear HO_15; clear HB; have HO_7 := n0_; have HO_15 := n1_; have HB := n2_; clear n0_ n1_ n2_; (try clear hb); (try clear hb2); (try clear hk); (try clear hi)))
                 go_ret
                 exact ⟨by first | rfl | (simp [errW_none, errW_some] <;> rfl) | (simp [*, errW_none, errW_some] <;> rfl), by repeat (first | (with_reducible first | exact HB.out | apply below_alloc | apply pw_below_drewN | apply below_drew1) | exact HB.out)⟩
 ·rw [if_neg c6] at H
  have c6b0 : (t232 == 0) = false := beq_eq_false_iff_ne.mpr c6
  have c6b1 : (t232 != 0) = true := bne_iff_ne.mpr c6
  by_cases c115 : (t229.length : Int) = 0
  ·rw [if_pos c115] at H
   have c115b0 : ((t229.length : Int) == 0) = true := beq_iff_eq.mpr c115
   have c115b1 : ((t229.length : Int) != 0) = false := bne_eq_false_iff_eq.mpr c115
   clear c115
   by_cases c116 : t233 ≥ 0
   ·rw [if_pos c116] at H
    have c116b0 : decide (0 ≤ t233) = true := decide_eq_true c116
    clear c116
    replace H := Option.bind_eq_some_iff.mp H
    obtain ⟨t235, A1170, H⟩ := H
    replace H : (if t233 ≤ (t235.length : Int) then ((glebelaw10_awake.f k).bind fun t238 => (some t238)) else (none)) = some r := H
    have A117 := Aside0.mk A1170
    clear A1170
    by_cases c118 : t233 ≤ (t235.length : Int)
    ·rw [if_pos c118] at H
     have c118b0 : decide (t233 ≤ (t235.length : Int)) = true := decide_eq_true c118
     clear c118
     replace H := Option.bind_eq_some_iff.mp H
     obtain ⟨t238, A1190, H⟩ := H
     replace H : (some t238) = some r := H
     have A119 := Aside0.mk A1190
     clear A1190
     obtain rfl := Option.some.inj H
     go_enter Try.func3, Try.ntmps3
     try go_wp2_with (first | ((with_reducible refine gate_callee (f := 5) rfl ?_); refine goesL_ (some 21) rfl rfl Try.func5 (by kernel_rfl) rfl #[.slice A0 l0.length c0] rfl (by (try simp only [List.map_toArray, List.map_cons, List.map_nil]); first | done | rfl | (simp only [List.length_drop, List.length_take]; rfl)) ?_; (with_reducible refine (glebelaw10_Text.calls k _ _ l0 t226 _ ?side1 ?side2 A4.out).mono ?_); (case side1 => repeat (first | exact HR0.out | (with_reducible refine Kd.C_alloc ?_ _) | (with_reducible refine Kd.C_drewN ?_ _) | (with_reducible refine Kd.C_drew ?_))); (case side2 => exact HC0.out); rintro e w120 ⟨v227, rfl, ho0, hb⟩; refine ⟨_, rfl, ?_⟩; have n0_ := Aside0.mk (Kd.R_lower ho0 (below_size (by repeat (first | (with_reducible first | exact HB.out | apply below_alloc | apply pw_below_drewN | apply below_drew1) | exact HB.out)))); have n1_ := Aside0.mk (below_step (by repeat (first | (with_reducible first | exact HB.out | apply below_alloc | apply pw_below_drewN | apply below_drew1) | exact HB.out)) hb); clear HB; have HO228 := n0_; have HB := n1_; clear n0_ n1_; (try clear hb); (try clear hb2); (try clear hk); (try clear hi); (try clear ho0); obtain ⟨Ao121, co121, eo121⟩ := Kd.R_slice HO228.out; subst eo121) | ((with_reducible refine gate_callee (f := 4) rfl ?_); refine goesL_ (some 22) rfl rfl Try.func4 (by kernel_rfl) rfl #[.slice Ao121 t226.length co121] rfl (by (try simp only [List.map_toArray, List.map_cons, List.map_nil]); first | done | rfl | (simp only [List.length_drop, List.length_take]; rfl)) ?_; (with_reducible refine (dnsl_Parse.calls k _ _ t226 t229 t232 t233 _ ?side1 ?side2 A5.out).mono ?_); (case side1 => repeat (first | exact (Kd.R_reads' HO228.out).2.2 | (with_reducible refine Kd.C_alloc ?_ _) | (with_reducible refine Kd.C_drewN ?_ _) | (with_reducible refine Kd.C_drew ?_))); (case side2 => exact (Kd.R_reads' HO228.out).2.1); rintro e w122 ⟨v230, rfl, ho0, hb⟩; refine ⟨_, rfl, ?_⟩; have n0_ := Aside0.mk (Kd.R_below (by (with_reducible repeat (first | apply Kd.R_alloc | apply Kd.R_drewN | apply Kd.R_drew)); exact HO228.out) hb); have n1_ := Aside0.mk (Kd.S_lower ho0 (below_size (by repeat (first | (with_reducible first | exact HB.out | apply below_alloc | apply pw_below_drewN | apply below_drew1) | exact HB.out)))); have n2_ := Aside0.mk (below_step (by repeat (first | (with_reducible first | exact HB.out | apply below_alloc | apply pw_below_drewN | apply below_drew1) | exact HB.out)) hb); clear HO228; clear HB; have HO228 := n0_; have HO231 := n1_; have HB := n2_; clear n0_ n1_ n2_; (try clear hb); (try clear hb2); (try clear hk); (try clear hi); (try clear ho0)) | ((with_reducible refine gate_dst (N := 8) rfl ?_); (try (refine gate_guard (by rfl) ?_; dsimp only)); refine box_event ?hg (N := 8) ?hd (cs := #[.int .i64 0, .int .i64 0]) (t := 26) ?hr ?_; (case hd => rfl); (case hg => rfl); (case hr => first | (go_simp; done) | (go_simp; rfl)); intro gb234 hg w123 hbox hb; have n0_ := Aside0.mk (Kd.R_below (by (with_reducible repeat (first | apply Kd.R_alloc | apply Kd.R_drewN | apply Kd.R_drew)); exact HO228.out) hb); have n1_ := Aside0.mk (Kd.S_below (by (with_reducible repeat (first | apply Kd.S_alloc | apply Kd.S_drewN | apply Kd.S_drew)); exact HO231.out) hb); have n2_ := Aside0.mk (below_step (by repeat (first | (with_reducible first | exact HB.out | apply below_alloc | apply pw_below_drewN | apply below_drew1) | exact HB.out)) hb); have n3_ := Aside0.mk (hbox); have n4_ := Aside0.mk ((by rw [hg]; exact (below_size (by repeat (first | (with_reducible first | exact HB.out | apply below_alloc | apply pw_below_drewN | apply below_drew1) | exact HB.out))) : w.heap.size ≤ gb234)); have n5_ := Aside0.mk ((by rw [hg]; exact (below_size (by repeat (first | (with_reducible first | exact HB.out | apply below_alloc | apply pw_below_drewN | apply below_drew1) | exact HB.out))) : w.heap.size ≤ gb234)); clear HO228; clear HO231; clear HB; have HO228 := n0_; have HO231 := n1_; have HB := n2_; have BK234 := n3_; have GW234 := n4_; have GE234 := n5_; clear n0_ n1_ n2_ n3_ n4_ n5_; clear hb hbox hg; have hcz124_0 : w123.cell? ⟨gb234, 0, none⟩ = some (.int .i64 0) := (blk_cell BK234.out 0).trans rfl; have hcz124_1 : w123.cell? ⟨gb234, 1, none⟩ = some (.int .i64 0) := (blk_cell BK234.out 1).trans rfl; have hfz124_0 := blk_frozen BK234.out 0; have hfz124_1 := blk_frozen BK234.out 1))
     have n0_ : Aside0 (Kd.R (Kd.int .u8) 5 ((w123.setCell ⟨gb234, 0, none⟩ (.int .i64 t232)).setCell ⟨gb234, 1, none⟩ (.int .i64 t233)) w.heap.size (fun _ => True) (.slice Ao121 t226.length co121) t226) := ⟨by (with_reducible repeat (first | apply Kd.R_alloc | apply Kd.R_drewN | apply Kd.R_drew)); exact Kd.R_mono (Kd.R_far (p := ⟨gb234, 1, none⟩) (Kd.R_far (p := ⟨gb234, 0, none⟩) (Kd.R_types HO228.out BK234.out (by decide)) (fun _ hk => hk.2) (.int .i64 t232)) (fun _ hk => hk.2) (.int .i64 t233)) (fun _ hk => trivial)⟩
     have n1_ : Aside0 (Kd.S k34 34 ((w123.setCell ⟨gb234, 0, none⟩ (.int .i64 t232)).setCell ⟨gb234, 1, none⟩ (.int .i64 t233)) w.heap.size (fun _ => True) v230 t229) := ⟨by (with_reducible repeat (first | apply Kd.S_alloc | apply Kd.S_drewN | apply Kd.S_drew)); exact Kd.S_mono (Kd.S_far (p := ⟨gb234, 1, none⟩) (Kd.S_far (p := ⟨gb234, 0, none⟩) (Kd.S_types HO231.out BK234.out (by decide)) (fun _ hk => hk.2) (.int .i64 t232)) (fun _ hk => hk.2) (.int .i64 t233)) (fun _ hk => trivial)⟩
     have n2_ : Aside0 (((w123.setCell ⟨gb234, 0, none⟩ (.int .i64 t232)).setCell ⟨gb234, 1, none⟩ (.int .i64 t233)).heap[gb234]? = some (.cells #[.int .i64 t232, .int .i64 t233] 26 (0, 0))) := ⟨by (with_reducible repeat (first | refine blk_drewN ?_ _ | refine blk_drew ?_ | refine blk_alloc ?_ _)); refine blk_put (cs := #[.int .i64 t232, .int .i64 0]) ?_ 1 _ rfl; (with_reducible repeat (first | refine blk_drewN ?_ _ | refine blk_drew ?_ | refine blk_alloc ?_ _)); refine blk_put (cs := #[.int .i64 0, .int .i64 0]) ?_ 0 _ rfl; (with_reducible repeat (first | refine blk_drewN ?_ _ | refine blk_drew ?_ | refine blk_alloc ?_ _)); exact BK234.out⟩
     have n3_ : Aside0 (Below w.heap.size w ((w123.setCell ⟨gb234, 0, none⟩ (.int .i64 t232)).setCell ⟨gb234, 1, none⟩ (.int .i64 t233))) := ⟨by repeat (first | (with_reducible first | exact HB.out | apply below_alloc | apply pw_below_drewN | apply below_drew1 | refine below_set ?_ GE234.out) | exact HB.out)⟩
     (try clear HO228)
     (try clear HO231)
     (try clear BK234)
     (try clear HB)
     generalize ((w123.setCell ⟨gb234, 0, none⟩ (.int .i64 t232)).setCell ⟨gb234, 1, none⟩ (.int .i64 t233)) = w125 at n0_ n1_ n2_ n3_ ⊢
     have HO228 := n0_
     have HO231 := n1_
     have BK234 := n2_
     have HB := n3_
     clear n0_ n1_ n2_ n3_
     have n0_ := Aside0.mk (Kd.R_drew HO228.out)
     have n1_ := Aside0.mk (Kd.S_drew HO231.out)
     have n2_ := Aside0.mk (blk_drew BK234.out)
     have n3_ := Aside0.mk (below_drew1 HB.out)
     clear HO228
     clear HO231
     clear BK234
     clear HB
     have HO228 := n0_
     have HO231 := n1_
     have BK234 := n2_
     have HB := n3_
     clear n0_ n1_ n2_ n3_
     obtain ⟨Ao127, co127, eo127⟩ := Kd.S_slice HO231.out
     (first | subst eo127 | (injection eo127 with f1_ f2_ f3_; have f4_ := f1_.symm; have f5_ := f3_.symm; clear f1_ f2_ f3_; subst f4_; subst f5_))
     refine start_ (n := 20) (S := fun w' => w'.cell? ⟨gb234, 0, none⟩ = some (.int .i64 t232) ∧ w'.cell? ⟨gb234, 1, none⟩ = some (.int .i64 t233)) (ds := []) #[false, false, false, false, false, false, false, false, false, false, false, false, false, false, false, false, false, false, false, false] (by kernel_rfl) rfl rfl ⟨(blk_cell BK234.out 0).trans rfl, (blk_cell BK234.out 1).trans rfl⟩ (fun hHeld => ?_); refine with_tabW glebelaw10_DnslBack.tab3 glebelaw10_DnslBack.bits3 (fun HT_ HW_ => ?_)
     generalize w125.drew = w126 at HO228 HO231 BK234 HB hHeld ⊢
     refine pure_ (i := 0) (N := some 28) (v := ?_) (a' := ?_) #[true, false, false, false, false, false, false, false, false, false, false, false, false, false, false, false, false, false, false, false] rfl rfl (any_of HT_.out (by kernel_rfl)) (fun _ _ _ h => h) (Or.inl ⟨by rfl, ?_⟩) ?_ ?_
     rotate_left
     ·intro w'
      go_simp
      with_reducible rfl
     rotate_left
     ·simp only [Act.put, List.setIfInBounds_toArray, List.set_cons_zero, List.set_cons_succ, i64_w, i32_w]
      rfl
     refine pure_ (i := 1) (N := some 29) (v := ?_) (a' := ?_) #[true, true, false, false, false, false, false, false, false, false, false, false, false, false, false, false, false, false, false, false] rfl rfl (any_of HT_.out (by kernel_rfl)) (fun _ _ _ h => h) (Or.inl ⟨by rfl, ?_⟩) ?_ ?_
     rotate_left
     ·intro w'
      go_simp
      with_reducible rfl
     rotate_left
     ·simp only [Act.put, List.setIfInBounds_toArray, List.set_cons_zero, List.set_cons_succ, i64_w, i32_w]
      rfl
     refine pure_ (i := 2) (N := some 30) (v := ?_) (a' := ?_) #[true, true, true, false, false, false, false, false, false, false, false, false, false, false, false, false, false, false, false, false] rfl rfl (any_of HT_.out (by kernel_rfl)) (fun _ _ _ h => h) (Or.inl ⟨by rfl, ?_⟩) ?_ ?_
     rotate_left
     ·intro w'
      go_simp
      with_reducible rfl
     rotate_left
     ·simp only [Act.put, List.setIfInBounds_toArray, List.set_cons_zero, List.set_cons_succ, i64_w, i32_w]
      rfl
     refine pure_ (i := 3) (N := some 31) (v := ?_) (a' := ?_) #[true, true, true, true, false, false, false, false, false, false, false, false, false, false, false, false, false, false, false, false] rfl rfl (any_of HT_.out (by kernel_rfl)) (fun _ _ _ h => h) (Or.inl ⟨by rfl, ?_⟩) ?_ ?_
     rotate_left
     ·intro w'
      go_simp
      with_reducible rfl
     rotate_left
     ·simp only [Act.put, List.setIfInBounds_toArray, List.set_cons_zero, List.set_cons_succ, i64_w, i32_w]
      rfl
     refine pure_ (i := 4) (N := some 32) (v := ?_) (a' := ?_) #[true, true, true, true, true, false, false, false, false, false, false, false, false, false, false, false, false, false, false, false] rfl rfl (any_of HT_.out (by kernel_rfl)) (fun _ _ _ h => h) (Or.inl ⟨by rfl, ?_⟩) ?_ ?_
     rotate_left
     ·intro w'
      go_simp
      with_reducible rfl
     rotate_left
     ·simp only [Act.put, List.setIfInBounds_toArray, List.set_cons_zero, List.set_cons_succ, i64_w, i32_w]
      rfl
     refine take_ (i := 5) (N := some 33) (v := ?_) (a' := ?_) #[true, true, true, true, true, true, false, false, false, false, false, false, false, false, false, false, false, false, false, false] rfl rfl (take_ofW HT_.out HW_.out (by kernel_rfl)) (fun _ _ _ h => h) (Or.inl ⟨by rfl, ?_⟩) hHeld ?_ ?_
     rotate_left
     ·rintro w' ⟨s0, s1⟩
      go_simp
      with_reducible rfl
     rotate_left
     ·simp only [Act.put, List.setIfInBounds_toArray, List.set_cons_zero, List.set_cons_succ, i64_w, i32_w]
      rfl
     refine pure_ (i := 6) (N := some 34) (v := ?_) (a' := ?_) #[true, true, true, true, true, true, true, false, false, false, false, false, false, false, false, false, false, false, false, false] rfl rfl (any_of HT_.out (by kernel_rfl)) (fun _ _ _ h => h) (Or.inl ⟨by rfl, ?_⟩) ?_ ?_
     rotate_left
     ·intro w'
      go_simp
      with_reducible rfl
     rotate_left
     ·simp only [Act.put, List.setIfInBounds_toArray, List.set_cons_zero, List.set_cons_succ, i64_w, i32_w]
      rfl
     refine pure_ (i := 7) (N := some 35) (v := ?_) (a' := ?_) #[true, true, true, true, true, true, true, true, false, false, false, false, false, false, false, false, false, false, false, false] rfl rfl (any_of HT_.out (by kernel_rfl)) (fun _ _ _ h => h) (Or.inl ⟨by rfl, ?_⟩) ?_ ?_
     rotate_left
     ·intro w'
      go_simp
      with_reducible rfl
     rotate_left
     ·simp only [Act.put, List.setIfInBounds_toArray, List.set_cons_zero, List.set_cons_succ, i64_w, i32_w]
      rfl
     refine pure_ (i := 8) (N := some 36) (v := ?_) (a' := ?_) #[true, true, true, true, true, true, true, true, true, false, false, false, false, false, false, false, false, false, false, false] rfl rfl (any_of HT_.out (by kernel_rfl)) (fun _ _ _ h => h) (Or.inl ⟨by rfl, ?_⟩) ?_ ?_
     rotate_left
     ·intro w'
      go_simp
      with_reducible rfl
     rotate_left
     ·simp only [Act.put, List.setIfInBounds_toArray, List.set_cons_zero, List.set_cons_succ, i64_w, i32_w]
      rfl
     refine pure_ (i := 9) (N := some 37) (v := ?_) (a' := ?_) #[true, true, true, true, true, true, true, true, true, true, false, false, false, false, false, false, false, false, false, false] rfl rfl (any_of HT_.out (by kernel_rfl)) (fun _ _ _ h => h) (Or.inl ⟨by rfl, ?_⟩) ?_ ?_
     rotate_left
     ·intro w'
      go_simp
      with_reducible rfl
     rotate_left
     ·simp only [Act.put, List.setIfInBounds_toArray, List.set_cons_zero, List.set_cons_succ, i64_w, i32_w]
      rfl
     refine pure_ (i := 11) (N := some 39) (v := ?_) (a' := ?_) #[true, true, true, true, true, true, true, true, true, true, false, true, false, false, false, false, false, false, false, false] rfl rfl (any_of HT_.out (by kernel_rfl)) (fun _ _ _ h => h) (Or.inl ⟨by rfl, ?_⟩) ?_ ?_
     rotate_left
     ·intro w'
      go_simp
      with_reducible rfl
     rotate_left
     ·simp only [Act.put, List.setIfInBounds_toArray, List.set_cons_zero, List.set_cons_succ, i64_w, i32_w]
      rfl
     refine take_ (i := 10) (N := some 38) (v := ?_) (a' := ?_) #[true, true, true, true, true, true, true, true, true, true, true, true, false, false, false, false, false, false, false, false] rfl rfl (take_ofW HT_.out HW_.out (by kernel_rfl)) (fun _ _ _ h => h) (Or.inl ⟨by rfl, ?_⟩) hHeld ?_ ?_
     rotate_left
     ·rintro w' ⟨s0, s1⟩
      go_simp
      with_reducible rfl
     rotate_left
     ·simp only [Act.put, List.setIfInBounds_toArray, List.set_cons_zero, List.set_cons_succ, i64_w, i32_w]
      rfl
     refine one_ (i := 12) (N := some 40) #[true, true, true, true, true, true, true, true, true, true, true, true, true, false, false, false, false, false, false, false] rfl rfl (one_of HT_.out (by kernel_rfl)) (by decide) (fun K hK => ?_)
     refine goes_ Try.func5 (by kernel_rfl) rfl #[.slice A0 l0.length c0] (by rfl) rfl rfl (by (try simp only [List.map_toArray, List.map_cons, List.map_nil]); first | done | rfl | (simp only [List.length_drop, List.length_take]; rfl)) ?_
     with_reducible refine (glebelaw10_Text.calls k _ _ l0 t235 _ ?side1 ?side2 A117.out).mono ?_
     (case side1 => repeat (first | exact (Kd.C_below HR0.out HB.out) | (with_reducible refine Kd.C_alloc ?_ _) | (with_reducible refine Kd.C_drewN ?_ _) | (with_reducible refine Kd.C_drew ?_)))
     (case side2 => exact HC0.out)
     rintro e w128 ⟨v236, rfl, ho0, hb⟩
     refine ⟨_, rfl, ?_⟩
     have n0_ := Aside0.mk (Kd.R_elder' (by (with_reducible repeat (first | apply Kd.R_alloc | apply Kd.R_drewN | apply Kd.R_drew)); exact HO228.out) (Kd.R_base ho0) hb)
     have n1_ := Aside0.mk (Kd.S_below (by (with_reducible repeat (first | apply Kd.S_alloc | apply Kd.S_drewN | apply Kd.S_drew)); exact HO231.out) hb)
     have n2_ := Aside0.mk (Kd.R_lower (Kd.R_new' ho0 (Kd.R_lt (by (with_reducible repeat (first | apply Kd.R_alloc | apply Kd.R_drewN | apply Kd.R_drew)); exact HO228.out))) (below_size (by repeat (first | (with_reducible first | exact HB.out | apply below_alloc | apply pw_below_drewN | apply below_drew1 | refine below_set ?_ GE234.out) | exact HB.out))))
     have n3_ := Aside0.mk (blk_below (g := gb234) (o := .cells #[.int .i64 t232, .int .i64 t233] 26 (0, 0)) (by (with_reducible repeat (first | refine blk_drewN ?_ _ | refine blk_drew ?_ | refine blk_alloc ?_ _)); exact BK234.out) hb)
     have n4_ := Aside0.mk (below_step (by repeat (first | (with_reducible first | exact HB.out | apply below_alloc | apply pw_below_drewN | apply below_drew1 | refine below_set ?_ GE234.out) | exact HB.out)) hb)
     clear HO228
     clear HO231
     clear BK234
     clear HB
     have HO228 := n0_
     have HO231 := n1_
     have HO237 := n2_
     have BK234 := n3_
     have HB := n4_
     clear n0_ n1_ n2_ n3_ n4_
     (try clear hb)
     (try clear hb2)
     (try clear hk)
     (try clear hi)
     (try clear ho0)
     obtain ⟨Ao129, co129, eo129⟩ := Kd.R_slice HO237.out
     (first | subst eo129 | (injection eo129 with f1_ f2_ f3_; have f4_ := f1_.symm; have f5_ := f3_.symm; clear f1_ f2_ f3_; subst f4_; subst f5_))
     refine hK.out _ _ ⟨(blk_cell BK234.out 0).trans rfl, (blk_cell BK234.out 1).trans rfl⟩ (fun hHeld => ?_)
     clear hK K
     refine norm_ (a' := ?_) ?_ ?_
     rotate_left
     ·show Act.put _ (some 40) _ = _
      simp only [Act.put, List.setIfInBounds_toArray, List.set_cons_zero, List.set_cons_succ, i64_w, i32_w]
      rfl
     refine pure_ (i := 13) (N := some 41) (v := ?_) (a' := ?_) #[true, true, true, true, true, true, true, true, true, true, true, true, true, true, false, false, false, false, false, false] rfl rfl (any_of HT_.out (by kernel_rfl)) (fun _ _ _ h => h) (Or.inl ⟨by rfl, ?_⟩) ?_ ?_
     rotate_left
     ·intro w'
      go_simp
      with_reducible rfl
     rotate_left
     ·simp only [Act.put, List.setIfInBounds_toArray, List.set_cons_zero, List.set_cons_succ, i64_w, i32_w]
      rfl
     refine pure_ (i := 14) (N := some 42) (v := ?_) (a' := ?_) #[true, true, true, true, true, true, true, true, true, true, true, true, true, true, true, false, false, false, false, false] rfl rfl (any_of HT_.out (by kernel_rfl)) (fun _ _ _ h => h) (Or.inl ⟨by rfl, ?_⟩) ?_ ?_
     rotate_left
     ·intro w'
      go_simp
      with_reducible rfl
     rotate_left
     ·simp only [Act.put, List.setIfInBounds_toArray, List.set_cons_zero, List.set_cons_succ, i64_w, i32_w]
      rfl
     refine pure_ (i := 15) (N := some 43) (v := ?_) (a' := ?_) #[true, true, true, true, true, true, true, true, true, true, true, true, true, true, true, true, false, false, false, false] rfl rfl (any_of HT_.out (by kernel_rfl)) (fun _ _ _ h => h) (Or.inl ⟨by rfl, ?_⟩) ?_ ?_
     rotate_left
     ·intro w'
      go_simp
      with_reducible rfl
     rotate_left
     ·simp only [Act.put, List.setIfInBounds_toArray, List.set_cons_zero, List.set_cons_succ, i64_w, i32_w]
      rfl
     refine pure_ (i := 16) (N := some 44) (v := ?_) (a' := ?_) #[true, true, true, true, true, true, true, true, true, true, true, true, true, true, true, true, true, false, false, false] rfl rfl (any_of HT_.out (by kernel_rfl)) (fun _ _ _ h => h) (Or.inl ⟨by rfl, ?_⟩) ?_ ?_
     rotate_left
     ·intro w'
      go_simp
      with_reducible rfl
     rotate_left
     ·simp only [Act.put, List.setIfInBounds_toArray, List.set_cons_zero, List.set_cons_succ, i64_w, i32_w]
      rfl
     refine one_ (i := 17) (N := some 45) #[true, true, true, true, true, true, true, true, true, true, true, true, true, true, true, true, true, true, false, false] rfl rfl (one_of HT_.out (by kernel_rfl)) (by decide) (fun K hK => ?_)
     refine goes_ Try.func6 (by kernel_rfl) rfl #[] (by rfl) rfl rfl (by (try simp only [List.map_toArray, List.map_cons, List.map_nil]); first | done | rfl | (simp only [List.length_drop, List.length_take]; rfl)) ?_
     with_reducible refine (glebelaw10_awake.calls k  t238 _ A119.out).mono ?_
     rintro e w130 ⟨rfl, hb⟩
     refine ⟨_, rfl, ?_⟩
     have n0_ := Aside0.mk (Kd.R_below (by (with_reducible repeat (first | apply Kd.R_alloc | apply Kd.R_drewN | apply Kd.R_drew)); exact HO228.out) hb)
     have n1_ := Aside0.mk (Kd.S_below (by (with_reducible repeat (first | apply Kd.S_alloc | apply Kd.S_drewN | apply Kd.S_drew)); exact HO231.out) hb)
     have n2_ := Aside0.mk (Kd.R_below (by (with_reducible repeat (first | apply Kd.R_alloc | apply Kd.R_drewN | apply Kd.R_drew)); exact HO237.out) hb)
     have n3_ := Aside0.mk (blk_below (g := gb234) (o := .cells #[.int .i64 t232, .int .i64 t233] 26 (0, 0)) (by (with_reducible repeat (first | refine blk_drewN ?_ _ | refine blk_drew ?_ | refine blk_alloc ?_ _)); exact BK234.out) hb)
     have n4_ := Aside0.mk (below_step (by repeat (first | (with_reducible first | exact HB.out | apply below_alloc | apply pw_below_drewN | apply below_drew1 | refine below_set ?_ GE234.out) | exact HB.out)) hb)
     clear HO228
     clear HO231
     clear HO237
     clear BK234
     clear HB
     have HO228 := n0_
     have HO231 := n1_
     have HO237 := n2_
     have BK234 := n3_
     have HB := n4_
     clear n0_ n1_ n2_ n3_ n4_
     (try clear hb)
     (try clear hb2)
     (try clear hk)
     (try clear hi)
     refine hK.out _ _ ⟨(blk_cell BK234.out 0).trans rfl, (blk_cell BK234.out 1).trans rfl⟩ (fun hHeld => ?_)
     clear hK K
     refine norm_ (a' := ?_) ?_ ?_
     rotate_left
     ·show Act.put _ (some 45) _ = _
      simp only [Act.put, List.setIfInBounds_toArray, List.set_cons_zero, List.set_cons_succ, i64_w, i32_w]
      rfl
     refine pure_ (i := 18) (N := some 46) (v := ?_) (a' := ?_) #[true, true, true, true, true, true, true, true, true, true, true, true, true, true, true, true, true, true, true, false] rfl rfl (any_of HT_.out (by kernel_rfl)) (fun _ _ _ h => h) (Or.inl ⟨by rfl, ?_⟩) ?_ ?_
     rotate_left
     ·intro w'
      go_simp
      with_reducible rfl
     rotate_left
     ·simp only [Act.put, List.setIfInBounds_toArray, List.set_cons_zero, List.set_cons_succ, i64_w, i32_w]
      rfl
     refine pure_ (i := 19) (N := some 6) (v := ?_) (a' := ?_) #[true, true, true, true, true, true, true, true, true, true, true, true, true, true, true, true, true, true, true, true] rfl rfl (any_of HT_.out (by kernel_rfl)) (fun _ _ _ h => h) (Or.inl ⟨by rfl, ?_⟩) ?_ ?_
     rotate_left
     ·intro w'
      go_simp
      with_reducible rfl
     rotate_left
     ·simp only [Act.put, List.setIfInBounds_toArray, List.set_cons_zero, List.set_cons_succ, i64_w, i32_w]
      rfl
     refine done_ (done_of HT_.out (by kernel_rfl)) ?_
     try go_wp2
     go_ret
     exact ⟨by first | rfl | (simp [errW_none, errW_some] <;> rfl) | (simp [*, errW_none, errW_some] <;> rfl), by repeat (first | (with_reducible first | exact HB.out | apply below_alloc | apply pw_below_drewN | apply below_drew1 | refine below_set ?_ GE234.out) | exact HB.out)⟩
    ·rw [if_neg c118] at H
     exact absurd H (by simp)
   ·rw [if_neg c116] at H
    exact absurd H (by simp)
  ·rw [if_neg c115] at H
   exact absurd H (by simp)

/-- THE ONE PURE STATEMENT of glebelaw10_DnslBack: yours. -/
def glebelaw10_DnslBack.Pure : Prop := ∀ (l0 : List Int) (l1 : List (List Int)) (a2 : Int), l0.length ≤ maxLen → l0.length * 8 ≤ 140737488351232 → (∀ x ∈ l0, (Lit.int .i64 x).wf = true) → l1.length ≤ maxLen → (∀ x ∈ l1, x.length ≤ maxLen ∧ ∀ y ∈ x, (Lit.int .u8 y).wf = true) → (Lit.int .i64 a2).wf = true → ∃ k, glebelaw10_DnslBack.f k l0 l1 a2 = some true
theorem glebelaw10_DnslBack.walk (P : glebelaw10_DnslBack.Pure) (a0 : Option Addr) (len0 cap0 : Nat) (z0 : List Int) (a1 : Option Addr) (cap1 : Nat) (l1 : List (List Int)) (a2 : Int) (w : World) (w0 : (a0 = none ∧ len0 = 0 ∧ cap0 = 0 ∧ z0 = []) ∨ ∃ x, a0 = some x ∧ len0 ≤ cap0 ∧ cap0 ≤ maxLen ∧ z0.length = cap0 ∧ (∀ i, i < z0.length → w.cell? (x.add i) = some (.int .i64 (z0.getD i 0))) ∧ ∀ n ∈ z0, (Lit.int .i64 n).wf = true) (y0 : len0 * 8 ≤ 140737488351232) (hr1 : Kd.C (Kd.slice 5 (Kd.int .u8)) w a1 l1.length l1) (hc1 : l1.length ≤ cap1) (hm1 : l1.length ≤ maxLen) (hw1 : ∀ x ∈ l1, x.length ≤ maxLen ∧ ∀ y ∈ x, (Lit.int .u8 y).wf = true) (w2 : (Lit.int .i64 a2).wf = true) :
  Calls Try.prog 3 #[.slice a0 len0 cap0, .slice a1 l1.length cap1, .int .i64 a2] w fun e w' => e = .returned (.bool true) ∧ Below w.heap.size w w' := by
 obtain ⟨l0, rfl, hr0, hm0, hw0, hc0⟩ := ReadsInt.ofRowC w0
 obtain ⟨k, h⟩ := P l0 l1 a2 hm0 y0 hw0 hm1 hw1 w2
 refine (glebelaw10_DnslBack.calls k _ _ l0 _ _ l1 a2 true w (Kd.C_of_reads (d := (0 : Int)) (h1 := fun _ => rfl) hr0) hc0 hr1 hc1 h).mono ?_
 rintro e w' ⟨rfl, hd⟩
 exact ⟨rfl, hd⟩

end Go.Proofs.Ytjieelpkdhfcgaa.E
