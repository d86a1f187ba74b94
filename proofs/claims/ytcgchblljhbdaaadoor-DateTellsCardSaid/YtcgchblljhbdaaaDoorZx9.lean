-- Printed by this session's own program (wip/xprint) out of the translation. Lean checks it.
import Derived.Test.YtcgchblljhbdaaaDoorZx0
import Derived.Test.YtcgchblljhbdaaaDoorZx2
import Derived.Test.YtcgchblljhbdaaaDoorZx3
import Derived.Test.YtcgchblljhbdaaaDoorZx6
import Derived.Test.YtcgchblljhbdaaaDoorZx7
import Derived.Test.YtcgchblljhbdaaaDoorZx8
namespace Go.Proofs.YtcgchblljhbdaaaDoor.Z
open Go.Proofs.YtcgchblljhbdaaaDoor
open Go.RowKit Go.Proofs.YtcgchblljhbdaaaDoorW.PrintWords Go.Proofs.YtcgchblljhbdaaaDoorW.PrintLast Go.Proofs.YtcgchblljhbdaaaDoorW.PrintMore
attribute [local go_sem] max2_int min2_int max_two min_two max_three min_three max_four min_four   -- for this text's walks alone
set_option linter.unusedVariables false
set_option linter.unusedSimpArgs false

/-! ### glebelaw6_DateTells: function 5 -/
mutual
def glebelaw6_DateTells.l0 : Nat → List Int → Int → Int → Int → Int → Int → Int → Option (Bool)
 | 0, _, _, _, _, _, _, _ => none
 | k + 1, x0, x1, x2, x3, x4, x5, x13 => if x13 < 2 then ((date_Print.f k x1).bind fun bt221 => ((gleberef1_PrintDate.f k x1).bind fun bt224 => (if bt221.1.toList = bt224.1.toList then (if bt221.2.1.toList = bt224.2.1.toList then (if (bt221.2.2 != bt224.2.2) = true then (none) else ((date_Week.f x1).bind fun t227 => ((gleberef1_Week.f x1).bind fun t228 => (if t227 = t228 then (glebelaw6_DateTells.l0 k x0 (Int.tmod x1 253402300800) x2 x3 x4 x5 (wrap64 (x13 + 1))) else (none))))) else (none)) else (none)))) else ((gleberef1_PrintDate.f k x1).bind fun bt229 => (if 0 ≤ (Int.tmod (Go.bits .and .i64 x2 255) 10) then (if (Int.tmod (Go.bits .and .i64 x2 255) 10) ≤ (bt229.1.size : Int) then ((some (([x3] : List Int) : List Int)).bind fun y232 => (if (bt229.1.extract 0 ((Int.tmod (Go.bits .and .i64 x2 255) 10) : Int).toNat).size + (strOfNums y232).size ≤ 9223372036854775807 then (if 0 ≤ (wrap64 ((Int.tmod (Go.bits .and .i64 x2 255) 10) + 1)) then (if (wrap64 ((Int.tmod (Go.bits .and .i64 x2 255) 10) + 1)) ≤ (bt229.1.size : Int) then (if (bt229.1.extract 0 ((Int.tmod (Go.bits .and .i64 x2 255) 10) : Int).toNat).size + (strOfNums y232).size + (bt229.1.extract ((wrap64 ((Int.tmod (Go.bits .and .i64 x2 255) 10) + 1)) : Int).toNat bt229.1.size).size ≤ 9223372036854775807 then (if 0 ≤ (Go.bits .and .i64 (x2 / 256) 7) then (if (Go.bits .and .i64 (x2 / 256) 7) ≤ (bt229.2.1.size : Int) then ((some (([x3] : List Int) : List Int)).bind fun y235 => (if (bt229.2.1.extract 0 ((Go.bits .and .i64 (x2 / 256) 7) : Int).toNat).size + (strOfNums y235).size ≤ 9223372036854775807 then (if 0 ≤ (wrap64 ((Go.bits .and .i64 (x2 / 256) 7) + 1)) then (if (wrap64 ((Go.bits .and .i64 (x2 / 256) 7) + 1)) ≤ (bt229.2.1.size : Int) then (if (bt229.2.1.extract 0 ((Go.bits .and .i64 (x2 / 256) 7) : Int).toNat).size + (strOfNums y235).size + (bt229.2.1.extract ((wrap64 ((Go.bits .and .i64 (x2 / 256) 7) + 1)) : Int).toNat bt229.2.1.size).size ≤ 9223372036854775807 then ((some (([(48 + (Int.tmod x3 10)) % 256] : List Int) : List Int)).bind fun y238 => (if (bt229.1.extract 0 ((Int.tmod (Go.bits .and .i64 x2 255) 10) : Int).toNat).size + (strOfNums y238).size ≤ 9223372036854775807 then (if (bt229.1.extract 0 ((Int.tmod (Go.bits .and .i64 x2 255) 10) : Int).toNat).size + (strOfNums y238).size + (bt229.1.extract ((wrap64 ((Int.tmod (Go.bits .and .i64 x2 255) 10) + 1)) : Int).toNat bt229.1.size).size ≤ 9223372036854775807 then ((some (([(48 + (Int.tmod x3 10)) % 256] : List Int) : List Int)).bind fun y241 => (if (bt229.2.1.extract 0 ((Go.bits .and .i64 (x2 / 256) 7) : Int).toNat).size + (strOfNums y241).size ≤ 9223372036854775807 then (if (bt229.2.1.extract 0 ((Go.bits .and .i64 (x2 / 256) 7) : Int).toNat).size + (strOfNums y241).size + (bt229.2.1.extract ((wrap64 ((Go.bits .and .i64 (x2 / 256) 7) + 1)) : Int).toNat bt229.2.1.size).size ≤ 9223372036854775807 then ((some (([(⟨strOfNums x0, bt229.2.1⟩ : S37), (⟨bt229.1, strOfNums x0⟩ : S37), (⟨bt229.1, bt229.2.1⟩ : S37), (⟨((bt229.1.extract 0 ((Int.tmod (Go.bits .and .i64 x2 255) 10) : Int).toNat) ++ (strOfNums y232)) ++ (bt229.1.extract ((wrap64 ((Int.tmod (Go.bits .and .i64 x2 255) 10) + 1)) : Int).toNat bt229.1.size), bt229.2.1⟩ : S37), (⟨bt229.1, ((bt229.2.1.extract 0 ((Go.bits .and .i64 (x2 / 256) 7) : Int).toNat) ++ (strOfNums y235)) ++ (bt229.2.1.extract ((wrap64 ((Go.bits .and .i64 (x2 / 256) 7) + 1)) : Int).toNat bt229.2.1.size)⟩ : S37), (⟨((bt229.1.extract 0 ((Int.tmod (Go.bits .and .i64 x2 255) 10) : Int).toNat) ++ (strOfNums y238)) ++ (bt229.1.extract ((wrap64 ((Int.tmod (Go.bits .and .i64 x2 255) 10) + 1)) : Int).toNat bt229.1.size), bt229.2.1⟩ : S37), (⟨bt229.1, ((bt229.2.1.extract 0 ((Go.bits .and .i64 (x2 / 256) 7) : Int).toNat) ++ (strOfNums y241)) ++ (bt229.2.1.extract ((wrap64 ((Go.bits .and .i64 (x2 / 256) 7) + 1)) : Int).toNat bt229.2.1.size)⟩ : S37)] : List (S37)) : List (S37))).bind fun y244 => (glebelaw6_DateTells.l1 k x0 x3 x4 x5 y244 (y244.length : Int) 0)) else (none)) else (none))) else (none)) else (none))) else (none)) else (none)) else (none)) else (none))) else (none)) else (none)) else (none)) else (none)) else (none)) else (none))) else (none)) else (none)))
def glebelaw6_DateTells.l1 : Nat → List Int → Int → Int → Int → List (S37) → Int → Int → Option (Bool)
 | 0, _, _, _, _, _, _, _ => none
 | k + 1, x0, x3, x4, x5, x163, x164, x165 => if x165 < x164 then (if 0 ≤ x165 then (if x165 < (x163.length : Int) then ((date_Parse.f k ((rd_T37 x163 x165).f0) ((rd_T37 x163 x165).f1)).bind fun bt249 => ((gleberef1_Date.f k ((rd_T37 x163 x165).f0) ((rd_T37 x163 x165).f1)).bind fun bt251 => (if bt249.1 = bt251.1 then (if (bt249.2 != bt251.2) = true then (none) else (glebelaw6_DateTells.l1 k x0 x3 x4 x5 x163 x164 (wrap64 (x165 + 1)))) else (none)))) else (none)) else (none)) else ((gleberef1_Text.f k x4).bind fun t253 => (if 1 + t253.size ≤ 9223372036854775807 then (if t253.size + 1 ≤ 9223372036854775807 then ((some (([x3] : List Int) : List Int)).bind fun y254 => (if t253.size + (strOfNums y254).size ≤ 9223372036854775807 then (if 1 ≤ (t253.size : Int) then ((some (([strOfNums x0, t253, (⟨#[48]⟩ : ByteArray) ++ t253, t253 ++ (⟨#[48]⟩ : ByteArray), t253 ++ (strOfNums y254), t253.extract 1 t253.size] : List ByteArray) : List ByteArray)).bind fun y257 => (glebelaw6_DateTells.l2 k x4 x5 t253 y257 (y257.length : Int) 0)) else (none)) else (none))) else (none)) else (none)))
def glebelaw6_DateTells.l2 : Nat → Int → Int → ByteArray → List ByteArray → Int → Int → Option (Bool)
 | 0, _, _, _, _, _, _ => none
 | k + 1, x4, x5, x31, x210, x211, x212 => if x212 < x211 then (if 0 ≤ x212 then (if x212 < (x210.length : Int) then ((date_Num.f k (rdOf ByteArray.empty x210 x212) x5).bind fun bt263 => ((gleberef1_Num.f k (rdOf ByteArray.empty x210 x212) x5).bind fun bt265 => (if bt263.1 = bt265.1 then (if (bt263.2 != bt265.2) = true then (none) else (glebelaw6_DateTells.l2 k x4 x5 x31 x210 x211 (wrap64 (x212 + 1)))) else (none)))) else (none)) else (none)) else ((date_Text.f x4).bind fun t260 => (if t260.toList = x31.toList then ((glebelaw6_awake.f k).bind fun t261 => (some t261)) else (none)))
end
def glebelaw6_DateTells.f (k : Nat) (l0 : List Int) (a1 : Int) (a2 : Int) (a3 : Int) (a4 : Int) (a5 : Int) : Option (Bool) := if (l0.length : Int) > 100 then ((glebelaw6_awake.f k).bind fun t220 => (some t220)) else (glebelaw6_DateTells.l0 k l0 a1 a2 a3 a4 a5 0)
theorem glebelaw6_DateTells.mono_l : ∀ k, (∀ y0 y1 y2 y3 y4 y5 y6, LeO (glebelaw6_DateTells.l0 k y0 y1 y2 y3 y4 y5 y6) (glebelaw6_DateTells.l0 (k + 1) y0 y1 y2 y3 y4 y5 y6)) ∧ (∀ y0 y1 y2 y3 y4 y5 y6, LeO (glebelaw6_DateTells.l1 k y0 y1 y2 y3 y4 y5 y6) (glebelaw6_DateTells.l1 (k + 1) y0 y1 y2 y3 y4 y5 y6)) ∧ (∀ y0 y1 y2 y3 y4 y5, LeO (glebelaw6_DateTells.l2 k y0 y1 y2 y3 y4 y5) (glebelaw6_DateTells.l2 (k + 1) y0 y1 y2 y3 y4 y5))
 | 0 => ⟨fun _ _ _ _ _ _ _ r h => by simp [glebelaw6_DateTells.l0] at h, fun _ _ _ _ _ _ _ r h => by simp [glebelaw6_DateTells.l1] at h, fun _ _ _ _ _ _ r h => by simp [glebelaw6_DateTells.l2] at h⟩
 | k + 1 => by
  obtain ⟨ih0, ih1, ih2⟩ := glebelaw6_DateTells.mono_l k
  refine ⟨?_, ?_, ?_⟩
  ·intro y0 y1 y2 y3 y4 y5 y6
   unfold glebelaw6_DateTells.l0
   repeat' first
   | (with_reducible exact ih0 _ _ _ _ _ _ _)
   | (with_reducible exact ih1 _ _ _ _ _ _ _)
   | (with_reducible exact ih2 _ _ _ _ _ _)
   | (with_reducible exact date_Num.mono _ _ _)
   | (with_reducible exact date_Parse.mono _ _ _)
   | (with_reducible exact date_Print.mono _ _)
   | (with_reducible exact glebelaw6_awake.mono _)
   | (with_reducible exact gleberef1_Date.mono _ _ _)
   | (with_reducible exact gleberef1_Num.mono _ _ _)
   | (with_reducible exact gleberef1_PrintDate.mono _ _)
   | (with_reducible exact gleberef1_Text.mono _ _)
   | (with_reducible exact LeO.refl _)
   | (with_reducible exact LeO.none _)
   | (with_reducible refine LeO.ite ?_ ?_)
   | (with_reducible refine LeO.bind ?_ (fun _ => ?_))
   | exact ih0 _ _ _ _ _ _ _
   | exact ih1 _ _ _ _ _ _ _
   | exact ih2 _ _ _ _ _ _
   | exact date_Num.mono _ _ _
   | exact date_Parse.mono _ _ _
   | exact date_Print.mono _ _
   | exact glebelaw6_awake.mono _
   | exact gleberef1_Date.mono _ _ _
   | exact gleberef1_Num.mono _ _ _
   | exact gleberef1_PrintDate.mono _ _
   | exact gleberef1_Text.mono _ _
   | exact LeO.none _
   | refine LeO.ite ?_ ?_
   | refine LeO.bind ?_ (fun _ => ?_)
  ·intro y0 y1 y2 y3 y4 y5 y6
   unfold glebelaw6_DateTells.l1
   repeat' first
   | (with_reducible exact ih0 _ _ _ _ _ _ _)
   | (with_reducible exact ih1 _ _ _ _ _ _ _)
   | (with_reducible exact ih2 _ _ _ _ _ _)
   | (with_reducible exact date_Num.mono _ _ _)
   | (with_reducible exact date_Parse.mono _ _ _)
   | (with_reducible exact date_Print.mono _ _)
   | (with_reducible exact glebelaw6_awake.mono _)
   | (with_reducible exact gleberef1_Date.mono _ _ _)
   | (with_reducible exact gleberef1_Num.mono _ _ _)
   | (with_reducible exact gleberef1_PrintDate.mono _ _)
   | (with_reducible exact gleberef1_Text.mono _ _)
   | (with_reducible exact LeO.refl _)
   | (with_reducible exact LeO.none _)
   | (with_reducible refine LeO.ite ?_ ?_)
   | (with_reducible refine LeO.bind ?_ (fun _ => ?_))
   | exact ih0 _ _ _ _ _ _ _
   | exact ih1 _ _ _ _ _ _ _
   | exact ih2 _ _ _ _ _ _
   | exact date_Num.mono _ _ _
   | exact date_Parse.mono _ _ _
   | exact date_Print.mono _ _
   | exact glebelaw6_awake.mono _
   | exact gleberef1_Date.mono _ _ _
   | exact gleberef1_Num.mono _ _ _
   | exact gleberef1_PrintDate.mono _ _
   | exact gleberef1_Text.mono _ _
   | exact LeO.none _
   | refine LeO.ite ?_ ?_
   | refine LeO.bind ?_ (fun _ => ?_)
  ·intro y0 y1 y2 y3 y4 y5
   unfold glebelaw6_DateTells.l2
   repeat' first
   | (with_reducible exact ih0 _ _ _ _ _ _ _)
   | (with_reducible exact ih1 _ _ _ _ _ _ _)
   | (with_reducible exact ih2 _ _ _ _ _ _)
   | (with_reducible exact date_Num.mono _ _ _)
   | (with_reducible exact date_Parse.mono _ _ _)
   | (with_reducible exact date_Print.mono _ _)
   | (with_reducible exact glebelaw6_awake.mono _)
   | (with_reducible exact gleberef1_Date.mono _ _ _)
   | (with_reducible exact gleberef1_Num.mono _ _ _)
   | (with_reducible exact gleberef1_PrintDate.mono _ _)
   | (with_reducible exact gleberef1_Text.mono _ _)
   | (with_reducible exact LeO.refl _)
   | (with_reducible exact LeO.none _)
   | (with_reducible refine LeO.ite ?_ ?_)
   | (with_reducible refine LeO.bind ?_ (fun _ => ?_))
   | exact ih0 _ _ _ _ _ _ _
   | exact ih1 _ _ _ _ _ _ _
   | exact ih2 _ _ _ _ _ _
   | exact date_Num.mono _ _ _
   | exact date_Parse.mono _ _ _
   | exact date_Print.mono _ _
   | exact glebelaw6_awake.mono _
   | exact gleberef1_Date.mono _ _ _
   | exact gleberef1_Num.mono _ _ _
   | exact gleberef1_PrintDate.mono _ _
   | exact gleberef1_Text.mono _ _
   | exact LeO.none _
   | refine LeO.ite ?_ ?_
   | refine LeO.bind ?_ (fun _ => ?_)
theorem glebelaw6_DateTells.mono : ∀ a0 a1 a2 a3 a4 a5 k, LeO (glebelaw6_DateTells.f k a0 a1 a2 a3 a4 a5) (glebelaw6_DateTells.f (k + 1) a0 a1 a2 a3 a4 a5) := by
 intro a0 a1 a2 a3 a4 a5 k
 obtain ⟨ih0, ih1, ih2⟩ := glebelaw6_DateTells.mono_l k
 unfold glebelaw6_DateTells.f
 repeat' first
   | (with_reducible exact ih0 _ _ _ _ _ _ _)
   | (with_reducible exact ih1 _ _ _ _ _ _ _)
   | (with_reducible exact ih2 _ _ _ _ _ _)
   | (with_reducible exact date_Num.mono _ _ _)
   | (with_reducible exact date_Parse.mono _ _ _)
   | (with_reducible exact date_Print.mono _ _)
   | (with_reducible exact glebelaw6_awake.mono _)
   | (with_reducible exact gleberef1_Date.mono _ _ _)
   | (with_reducible exact gleberef1_Num.mono _ _ _)
   | (with_reducible exact gleberef1_PrintDate.mono _ _)
   | (with_reducible exact gleberef1_Text.mono _ _)
   | (with_reducible exact LeO.refl _)
   | (with_reducible exact LeO.none _)
   | (with_reducible refine LeO.ite ?_ ?_)
   | (with_reducible refine LeO.bind ?_ (fun _ => ?_))
   | exact ih0 _ _ _ _ _ _ _
   | exact ih1 _ _ _ _ _ _ _
   | exact ih2 _ _ _ _ _ _
   | exact date_Num.mono _ _ _
   | exact date_Parse.mono _ _ _
   | exact date_Print.mono _ _
   | exact glebelaw6_awake.mono _
   | exact gleberef1_Date.mono _ _ _
   | exact gleberef1_Num.mono _ _ _
   | exact gleberef1_PrintDate.mono _ _
   | exact gleberef1_Text.mono _ _
   | exact LeO.none _
   | refine LeO.ite ?_ ?_
   | refine LeO.bind ?_ (fun _ => ?_)
def glebelaw6_DateTells.T14 : Bool × List (List Nat × List Nat) := (true, [([], []), ([0], [0]), ([], []), ([1, 2], [1, 2]), ([], []), ([], []), ([5], [5]), ([4, 6], [4, 6]), ([], []), ([], []), ([8, 9], [8, 9]), ([], []), ([], []), ([11, 12], [11, 12]), ([], []), ([14], [14]), ([15], [15]), ([13, 16], [13, 16]), ([], []), ([], []), ([19], [19]), ([18, 20], [18, 20]), ([17, 21], [17, 21]), ([], []), ([22, 23], [22, 23]), ([], []), ([], []), ([], []), ([26, 27], [26, 27]), ([], []), ([29], [29]), ([30], [30]), ([28, 31], [28, 31]), ([], []), ([], []), ([34], [34]), ([33, 35], [33, 35]), ([32, 36], [32, 36]), ([25, 37], [25, 37]), ([], []), ([], []), ([39, 40], [39, 40]), ([], []), ([42], [42]), ([43], [43]), ([44], [44]), ([45], [45]), ([41, 46], [41, 46]), ([], []), ([], []), ([49], [49]), ([48, 50], [48, 50]), ([47, 51], [47, 51]), ([], []), ([52, 53], [52, 53]), ([], []), ([], []), ([], []), ([56, 57], [56, 57]), ([], []), ([59], [59]), ([60], [60]), ([61], [61]), ([62], [62]), ([58, 63], [58, 63]), ([], []), ([], []), ([66], [66]), ([65, 67], [65, 67]), ([64, 68], [64, 68]), ([55, 69], [55, 69]), ([3, 7, 10, 24, 38, 54, 70], [3, 7, 10, 24, 38, 54, 70]), ([71], [71]), ([], [])])
def glebelaw6_DateTells.B14 : List Nat := [0, 1, 0, 7, 0, 0, 32, 112, 0, 0, 768, 0, 0, 6144, 0, 16384, 49152, 129024, 0, 0, 524288, 1835008, 4192256, 0, 16775168, 0, 0, 0, 201326592, 0, 536870912, 1610612736, 4227858432, 0, 0, 17179869184, 60129542144, 137371844608, 274844352512, 0, 0, 1649267441664, 0, 4398046511104, 13194139533312, 30786325577728, 65970697666560, 140187732541440, 0, 0, 562949953421312, 1970324836974592, 4503049871556608, 0, 18013848753668096, 0, 0, 0, 216172782113783808, 0, 576460752303423488, 1729382256910270464, 4035225266123964416, 8646911284551352320, 18374686479671623680, 0, 0, 73786976294838206464, 258254417031933722624, 590223752764667723776, 1180555591920392339456, 2361183241434822606847, 4722366482869645213695, 0]
theorem glebelaw6_DateTells.tab14 : rtab .any (opsOf Tryd.f5 14) = glebelaw6_DateTells.T14 := by kernel_rfl
theorem glebelaw6_DateTells.bits14 : waitsOk glebelaw6_DateTells.T14.2 glebelaw6_DateTells.B14 = true := by kernel_rfl
def glebelaw6_DateTells.T23 : Bool × List (List Nat × List Nat) := (true, [([], []), ([0], [0]), ([], []), ([], []), ([3], [3]), ([], []), ([5], [5]), ([], []), ([], []), ([8], [8]), ([9], [9]), ([7, 10], [7, 10]), ([], []), ([12], [12]), ([1, 2, 4, 6, 11, 13], [1, 2, 4, 6, 11, 13]), ([14], [14]), ([], [])])
def glebelaw6_DateTells.B23 : List Nat := [0, 1, 0, 0, 8, 0, 32, 0, 0, 256, 768, 1920, 0, 4096, 16383, 32767, 0]
theorem glebelaw6_DateTells.tab23 : rtab .any (opsOf Tryd.f5 23) = glebelaw6_DateTells.T23 := by kernel_rfl
theorem glebelaw6_DateTells.bits23 : waitsOk glebelaw6_DateTells.T23.2 glebelaw6_DateTells.B23 = true := by kernel_rfl
set_option maxHeartbeats 8000000 in
set_option maxRecDepth 100000 in
theorem glebelaw6_DateTells.calls (k : Nat) (A0 : Option Addr) (c0 : Nat) (l0 : List Int) (a1 : Int) (a2 : Int) (a3 : Int) (a4 : Int) (a5 : Int) (r : Bool) (w : World) (hr0 : Kd.C (Kd.int .u8) w A0 l0.length l0) (hc0 : l0.length ≤ c0) (hTab : XT.Tabs w) (h : glebelaw6_DateTells.f k l0 a1 a2 a3 a4 a5 = some r) :
  Calls Tryd.prog 5 #[.slice A0 l0.length c0, .int .u64 a1, .int .i64 a2, .int .u8 a3, .int .u64 a4, .int .u64 a5] w fun e w' => e = .returned (.bool r) ∧ Below w.heap.size w w' := by
 have hu37 := Tryd.underlying37
 have HR0 := Aside0.mk hr0
 have HC0 := Aside0.mk hc0
 clear hr0 hc0
 have HB := Aside0.mk (Below.refl w.heap.size w)
 have H : (if (l0.length : Int) > 100 then ((glebelaw6_awake.f k).bind fun t220 => (some t220)) else (glebelaw6_DateTells.l0 k l0 a1 a2 a3 a4 a5 0)) = some r := h
 clear h
 by_cases c7 : (l0.length : Int) > 100
 ·rw [if_pos c7] at H
  have c7b0 : decide (100 < (l0.length : Int)) = true := decide_eq_true c7
  have c7b1 : decide (100 < l0.length) = true := decide_eq_true (by omega)
  clear c7
  replace H := Option.bind_eq_some_iff.mp H
  obtain ⟨t220, A80, H⟩ := H
  replace H : (some t220) = some r := H
  have A8 := Aside0.mk A80
  clear A80
  obtain rfl := Option.some.inj H
  go_enter Tryd.func5, Tryd.ntmps5
  go_wp2_with (first | ((with_reducible refine gate_callee (f := 16) rfl ?_); refine goesL_ (some 41) rfl rfl Tryd.func16 (by kernel_rfl) rfl #[] rfl (by (try simp only [List.map_toArray, List.map_cons, List.map_nil]); first | done | rfl | (simp only [List.length_drop, List.length_take]; rfl)) ?_; (with_reducible refine (glebelaw6_awake.calls k  t220 _ ?side1 A8.out).mono ?_); (case side1 => exact XT.Tabs.below hTab (by repeat (first | (with_reducible first | exact HB.out | apply below_alloc | apply pw_below_drewN | apply below_drew1) | exact HB.out))); rintro e w9 ⟨rfl, hb⟩; refine ⟨_, rfl, ?_⟩; have n0_ := Aside0.mk (below_step (by repeat (first | (with_reducible first | exact HB.out | apply below_alloc | apply pw_below_drewN | apply below_drew1) | exact HB.out)) hb); clear HB; have HB := n0_; clear n0_; (try clear hb); (try clear hb2); (try clear hk); (try clear hi)))
  go_ret
  exact ⟨by first | rfl | (simp [errW_none, errW_some] <;> rfl) | (simp [*, errW_none, errW_some] <;> rfl), by repeat (first | (with_reducible first | exact HB.out | apply below_alloc | apply pw_below_drewN | apply below_drew1) | exact HB.out)⟩
 ·rw [if_neg c7] at H
  have c7b0 : decide (100 < (l0.length : Int)) = false := decide_eq_false c7
  have c7b1 : decide (100 < l0.length) = false := decide_eq_false (by omega)
  clear c7
  have H' := Aside0.mk H
  clear H
  go_enter Tryd.func5, Tryd.ntmps5
  go_wp2
  go_loopg [1, 13] k (fun kq v1 v13 w' => ∃ (x1_1 : Int) (x13_1 : Int), v1 = .int .u64 x1_1 ∧ v13 = .int .i64 x13_1 ∧ Aside0 (glebelaw6_DateTells.l0 kq l0 x1_1 a2 a3 a4 a5 x13_1 = some r) ∧ Aside0 (kq ≤ k) ∧ Aside0 (Below w.heap.size w w'))
  case atStart => exact ⟨(a1), (0), (by first | rfl | (simp only [i64_w]; done) | (simp; done) | (simp [*]; done)), (by first | rfl | (simp only [i64_w]; done) | (simp; done) | (simp [*]; done)), H', ⟨Nat.le_refl _⟩, ⟨by repeat (first | (with_reducible first | exact HB.out | apply below_alloc | apply pw_below_drewN | apply below_drew1) | exact HB.out)⟩⟩
  case round =>
   clear H'
   try clear c1
   try clear p2
   try clear c5
   try clear c7
   try clear c7b0
   try clear c7b1
   obtain ⟨x1_1, x13_1, rfl, rfl, HA, HK1, HB⟩ := hrel
   cases gk with
   | zero => exact absurd HA.out (by simp [glebelaw6_DateTells.l0])
   | succ k1 =>
    have H := HA.out
    clear HA
    simp only [glebelaw6_DateTells.l0] at H
    by_cases c10 : x13_1 < 2
    ·rw [if_pos c10] at H
     have c10b0 : decide (x13_1 < 2) = true := decide_eq_true c10
     clear c10
     replace H := Option.bind_eq_some_iff.mp H
     obtain ⟨⟨t221, t222, t223⟩, A110, H⟩ := H
     replace H : ((gleberef1_PrintDate.f k1 x1_1).bind fun bt224 => (if t221.toList = bt224.1.toList then (if t222.toList = bt224.2.1.toList then (if (t223 != bt224.2.2) = true then (none) else ((date_Week.f x1_1).bind fun t227 => ((gleberef1_Week.f x1_1).bind fun t228 => (if t227 = t228 then (glebelaw6_DateTells.l0 k1 l0 (Int.tmod x1_1 253402300800) a2 a3 a4 a5 (wrap64 (x13_1 + 1))) else (none))))) else (none)) else (none))) = some r := H
     have A11 := Aside0.mk A110
     clear A110
     replace H := Option.bind_eq_some_iff.mp H
     obtain ⟨⟨t224, t225, t226⟩, A120, H⟩ := H
     replace H : (if t221.toList = t224.toList then (if t222.toList = t225.toList then (if (t223 != t226) = true then (none) else ((date_Week.f x1_1).bind fun t227 => ((gleberef1_Week.f x1_1).bind fun t228 => (if t227 = t228 then (glebelaw6_DateTells.l0 k1 l0 (Int.tmod x1_1 253402300800) a2 a3 a4 a5 (wrap64 (x13_1 + 1))) else (none))))) else (none)) else (none)) = some r := H
     have A12 := Aside0.mk A120
     clear A120
     by_cases c13 : t221.toList = t224.toList
     ·rw [if_pos c13] at H
      have c13b0 : (t221.toList == t224.toList) = true := beq_iff_eq.mpr c13
      have c13b1 : (t221.toList != t224.toList) = false := bne_eq_false_iff_eq.mpr c13
      clear c13
      by_cases c14 : t222.toList = t225.toList
      ·rw [if_pos c14] at H
       have c14b0 : (t222.toList == t225.toList) = true := beq_iff_eq.mpr c14
       have c14b1 : (t222.toList != t225.toList) = false := bne_eq_false_iff_eq.mpr c14
       clear c14
       by_cases c15 : (t223 != t226) = true
       ·rw [if_pos c15] at H
        exact absurd H (by simp)
       ·rw [if_neg c15] at H
        have c15b0 : (t223 != t226) = false := by simpa using c15
        (try (have c15b1 : decide (t223 = t226) = true := by simpa using c15))
        (try (have c15b2 : (t223 == t226) = true := by simpa using c15))
        clear c15
        replace H := Option.bind_eq_some_iff.mp H
        obtain ⟨t227, A160, H⟩ := H
        replace H : ((gleberef1_Week.f x1_1).bind fun t228 => (if t227 = t228 then (glebelaw6_DateTells.l0 k1 l0 (Int.tmod x1_1 253402300800) a2 a3 a4 a5 (wrap64 (x13_1 + 1))) else (none))) = some r := H
        have A16 := Aside0.mk A160
        clear A160
        replace H := Option.bind_eq_some_iff.mp H
        obtain ⟨t228, A170, H⟩ := H
        replace H : (if t227 = t228 then (glebelaw6_DateTells.l0 k1 l0 (Int.tmod x1_1 253402300800) a2 a3 a4 a5 (wrap64 (x13_1 + 1))) else (none)) = some r := H
        have A17 := Aside0.mk A170
        clear A170
        by_cases c18 : t227 = t228
        ·rw [if_pos c18] at H
         have c18b0 : (t227 == t228) = true := beq_iff_eq.mpr c18
         have c18b1 : (t227 != t228) = false := bne_eq_false_iff_eq.mpr c18
         clear c18
         have H' := Aside0.mk H
         clear H
         go_wp2_with (first | ((with_reducible refine gate_callee (f := 17) rfl ?_); refine goesL_ (some 48) rfl rfl Tryd.func17 (by kernel_rfl) rfl #[.int .u64 x1_1] rfl (by (try simp only [List.map_toArray, List.map_cons, List.map_nil]); first | done | rfl | (simp only [List.length_drop, List.length_take]; rfl)) ?_; (with_reducible refine (date_Print.calls k1 x1_1 t221 t222 t223 _ ?side1 A11.out).mono ?_); (case side1 => exact XT.Tabs.below hTab (by repeat (first | (with_reducible first | exact HB.out | apply below_alloc | apply pw_below_drewN | apply below_drew1) | exact HB.out))); rintro e w19 ⟨rfl, hb⟩; refine ⟨_, rfl, ?_⟩; have n0_ := Aside0.mk (below_step (by repeat (first | (with_reducible first | exact HB.out | apply below_alloc | apply pw_below_drewN | apply below_drew1) | exact HB.out)) hb); clear HB; have HB := n0_; clear n0_; (try clear hb); (try clear hb2); (try clear hk); (try clear hi)) | ((with_reducible refine gate_callee (f := 21) rfl ?_); refine goesL_ (some 54) rfl rfl Tryd.func21 (by kernel_rfl) rfl #[.int .u64 x1_1] rfl (by (try simp only [List.map_toArray, List.map_cons, List.map_nil]); first | done | rfl | (simp only [List.length_drop, List.length_take]; rfl)) ?_; (with_reducible refine (gleberef1_PrintDate.calls k1 x1_1 t224 t225 t226 _ A12.out).mono ?_); rintro e w20 ⟨rfl, hb⟩; refine ⟨_, rfl, ?_⟩; have n0_ := Aside0.mk (below_step (by repeat (first | (with_reducible first | exact HB.out | apply below_alloc | apply pw_below_drewN | apply below_drew1) | exact HB.out)) hb); clear HB; have HB := n0_; clear n0_; (try clear hb); (try clear hb2); (try clear hk); (try clear hi)) | (go_at_call 18; (with_reducible refine (date_Week.calls x1_1 t227 _ A16.out).mono ?_); rintro e w' ⟨rfl, ⟨nd, rfl⟩⟩) | (go_at_call 22; (with_reducible refine (gleberef1_Week.calls x1_1 t228 _ A17.out).mono ?_); rintro e w' ⟨rfl, ⟨nd, rfl⟩⟩))
         go_roundg k1
         case measure => have := HK1.out; omega
         case rel => exact ⟨(Int.tmod x1_1 253402300800), (wrap64 (x13_1 + 1)), (by first | rfl | (simp only [i64_w]; done) | (simp; done) | (simp [*]; done)), (by first | rfl | (simp only [i64_w]; done) | (simp; done) | (simp [*]; done)), H', ⟨by have := HK1.out; omega⟩, ⟨by repeat (first | (with_reducible first | exact HB.out | apply below_alloc | apply pw_below_drewN | apply below_drew1) | exact HB.out)⟩⟩
        ·rw [if_neg c18] at H
         exact absurd H (by simp)
      ·rw [if_neg c14] at H
       exact absurd H (by simp)
     ·rw [if_neg c13] at H
      exact absurd H (by simp)
    ·rw [if_neg c10] at H
     have c10b0 : decide (x13_1 < 2) = false := decide_eq_false c10
     clear c10
     replace H := Option.bind_eq_some_iff.mp H
     obtain ⟨⟨t229, t230, t231⟩, A210, H⟩ := H
     replace H : (if 0 ≤ (Int.tmod (Go.bits .and .i64 a2 255) 10) then (if (Int.tmod (Go.bits .and .i64 a2 255) 10) ≤ (t229.size : Int) then ((some (([a3] : List Int) : List Int)).bind fun y232 => (if (t229.extract 0 ((Int.tmod (Go.bits .and .i64 a2 255) 10) : Int).toNat).size + (strOfNums y232).size ≤ 9223372036854775807 then (if 0 ≤ (wrap64 ((Int.tmod (Go.bits .and .i64 a2 255) 10) + 1)) then (if (wrap64 ((Int.tmod (Go.bits .and .i64 a2 255) 10) + 1)) ≤ (t229.size : Int) then (if (t229.extract 0 ((Int.tmod (Go.bits .and .i64 a2 255) 10) : Int).toNat).size + (strOfNums y232).size + (t229.extract ((wrap64 ((Int.tmod (Go.bits .and .i64 a2 255) 10) + 1)) : Int).toNat t229.size).size ≤ 9223372036854775807 then (if 0 ≤ (Go.bits .and .i64 (a2 / 256) 7) then (if (Go.bits .and .i64 (a2 / 256) 7) ≤ (t230.size : Int) then ((some (([a3] : List Int) : List Int)).bind fun y235 => (if (t230.extract 0 ((Go.bits .and .i64 (a2 / 256) 7) : Int).toNat).size + (strOfNums y235).size ≤ 9223372036854775807 then (if 0 ≤ (wrap64 ((Go.bits .and .i64 (a2 / 256) 7) + 1)) then (if (wrap64 ((Go.bits .and .i64 (a2 / 256) 7) + 1)) ≤ (t230.size : Int) then (if (t230.extract 0 ((Go.bits .and .i64 (a2 / 256) 7) : Int).toNat).size + (strOfNums y235).size + (t230.extract ((wrap64 ((Go.bits .and .i64 (a2 / 256) 7) + 1)) : Int).toNat t230.size).size ≤ 9223372036854775807 then ((some (([(48 + (Int.tmod a3 10)) % 256] : List Int) : List Int)).bind fun y238 => (if (t229.extract 0 ((Int.tmod (Go.bits .and .i64 a2 255) 10) : Int).toNat).size + (strOfNums y238).size ≤ 9223372036854775807 then (if (t229.extract 0 ((Int.tmod (Go.bits .and .i64 a2 255) 10) : Int).toNat).size + (strOfNums y238).size + (t229.extract ((wrap64 ((Int.tmod (Go.bits .and .i64 a2 255) 10) + 1)) : Int).toNat t229.size).size ≤ 9223372036854775807 then ((some (([(48 + (Int.tmod a3 10)) % 256] : List Int) : List Int)).bind fun y241 => (if (t230.extract 0 ((Go.bits .and .i64 (a2 / 256) 7) : Int).toNat).size + (strOfNums y241).size ≤ 9223372036854775807 then (if (t230.extract 0 ((Go.bits .and .i64 (a2 / 256) 7) : Int).toNat).size + (strOfNums y241).size + (t230.extract ((wrap64 ((Go.bits .and .i64 (a2 / 256) 7) + 1)) : Int).toNat t230.size).size ≤ 9223372036854775807 then ((some (([(⟨strOfNums l0, t230⟩ : S37), (⟨t229, strOfNums l0⟩ : S37), (⟨t229, t230⟩ : S37), (⟨((t229.extract 0 ((Int.tmod (Go.bits .and .i64 a2 255) 10) : Int).toNat) ++ (strOfNums y232)) ++ (t229.extract ((wrap64 ((Int.tmod (Go.bits .and .i64 a2 255) 10) + 1)) : Int).toNat t229.size), t230⟩ : S37), (⟨t229, ((t230.extract 0 ((Go.bits .and .i64 (a2 / 256) 7) : Int).toNat) ++ (strOfNums y235)) ++ (t230.extract ((wrap64 ((Go.bits .and .i64 (a2 / 256) 7) + 1)) : Int).toNat t230.size)⟩ : S37), (⟨((t229.extract 0 ((Int.tmod (Go.bits .and .i64 a2 255) 10) : Int).toNat) ++ (strOfNums y238)) ++ (t229.extract ((wrap64 ((Int.tmod (Go.bits .and .i64 a2 255) 10) + 1)) : Int).toNat t229.size), t230⟩ : S37), (⟨t229, ((t230.extract 0 ((Go.bits .and .i64 (a2 / 256) 7) : Int).toNat) ++ (strOfNums y241)) ++ (t230.extract ((wrap64 ((Go.bits .and .i64 (a2 / 256) 7) + 1)) : Int).toNat t230.size)⟩ : S37)] : List (S37)) : List (S37))).bind fun y244 => (glebelaw6_DateTells.l1 k1 l0 a3 a4 a5 y244 (y244.length : Int) 0)) else (none)) else (none))) else (none)) else (none))) else (none)) else (none)) else (none)) else (none))) else (none)) else (none)) else (none)) else (none)) else (none)) else (none))) else (none)) else (none)) = some r := H
     have A21 := Aside0.mk A210
     clear A210
     obtain ⟨ji22, hji22⟩ : ∃ j_ : Int, (Int.tmod (Go.bits .and .i64 a2 255) 10) = j_ := ⟨_, rfl⟩
     replace H : (if 0 ≤ (ji22) then (if (ji22) ≤ (t229.size : Int) then ((some (([a3] : List Int) : List Int)).bind fun y232 => (if (t229.extract 0 ((ji22) : Int).toNat).size + (strOfNums y232).size ≤ 9223372036854775807 then (if 0 ≤ (wrap64 ((ji22) + 1)) then (if (wrap64 ((ji22) + 1)) ≤ (t229.size : Int) then (if (t229.extract 0 ((ji22) : Int).toNat).size + (strOfNums y232).size + (t229.extract ((wrap64 ((ji22) + 1)) : Int).toNat t229.size).size ≤ 9223372036854775807 then (if 0 ≤ (Go.bits .and .i64 (a2 / 256) 7) then (if (Go.bits .and .i64 (a2 / 256) 7) ≤ (t230.size : Int) then ((some (([a3] : List Int) : List Int)).bind fun y235 => (if (t230.extract 0 ((Go.bits .and .i64 (a2 / 256) 7) : Int).toNat).size + (strOfNums y235).size ≤ 9223372036854775807 then (if 0 ≤ (wrap64 ((Go.bits .and .i64 (a2 / 256) 7) + 1)) then (if (wrap64 ((Go.bits .and .i64 (a2 / 256) 7) + 1)) ≤ (t230.size : Int) then (if (t230.extract 0 ((Go.bits .and .i64 (a2 / 256) 7) : Int).toNat).size + (strOfNums y235).size + (t230.extract ((wrap64 ((Go.bits .and .i64 (a2 / 256) 7) + 1)) : Int).toNat t230.size).size ≤ 9223372036854775807 then ((some (([(48 + (Int.tmod a3 10)) % 256] : List Int) : List Int)).bind fun y238 => (if (t229.extract 0 ((ji22) : Int).toNat).size + (strOfNums y238).size ≤ 9223372036854775807 then (if (t229.extract 0 ((ji22) : Int).toNat).size + (strOfNums y238).size + (t229.extract ((wrap64 ((ji22) + 1)) : Int).toNat t229.size).size ≤ 9223372036854775807 then ((some (([(48 + (Int.tmod a3 10)) % 256] : List Int) : List Int)).bind fun y241 => (if (t230.extract 0 ((Go.bits .and .i64 (a2 / 256) 7) : Int).toNat).size + (strOfNums y241).size ≤ 9223372036854775807 then (if (t230.extract 0 ((Go.bits .and .i64 (a2 / 256) 7) : Int).toNat).size + (strOfNums y241).size + (t230.extract ((wrap64 ((Go.bits .and .i64 (a2 / 256) 7) + 1)) : Int).toNat t230.size).size ≤ 9223372036854775807 then ((some (([(⟨strOfNums l0, t230⟩ : S37), (⟨t229, strOfNums l0⟩ : S37), (⟨t229, t230⟩ : S37), (⟨((t229.extract 0 ((ji22) : Int).toNat) ++ (strOfNums y232)) ++ (t229.extract ((wrap64 ((ji22) + 1)) : Int).toNat t229.size), t230⟩ : S37), (⟨t229, ((t230.extract 0 ((Go.bits .and .i64 (a2 / 256) 7) : Int).toNat) ++ (strOfNums y235)) ++ (t230.extract ((wrap64 ((Go.bits .and .i64 (a2 / 256) 7) + 1)) : Int).toNat t230.size)⟩ : S37), (⟨((t229.extract 0 ((ji22) : Int).toNat) ++ (strOfNums y238)) ++ (t229.extract ((wrap64 ((ji22) + 1)) : Int).toNat t229.size), t230⟩ : S37), (⟨t229, ((t230.extract 0 ((Go.bits .and .i64 (a2 / 256) 7) : Int).toNat) ++ (strOfNums y241)) ++ (t230.extract ((wrap64 ((Go.bits .and .i64 (a2 / 256) 7) + 1)) : Int).toNat t230.size)⟩ : S37)] : List (S37)) : List (S37))).bind fun y244 => (glebelaw6_DateTells.l1 k1 l0 a3 a4 a5 y244 (y244.length : Int) 0)) else (none)) else (none))) else (none)) else (none))) else (none)) else (none)) else (none)) else (none))) else (none)) else (none)) else (none)) else (none)) else (none)) else (none))) else (none)) else (none)) = some r := by first | (rw [hji22] at H; exact H) | (simp only [hji22] at H ⊢; exact H)
     (try rw [hji22] at A21)
     by_cases c23 : 0 ≤ (ji22)
     ·rw [if_pos c23] at H
      have c23b0 := eq_true c23
      have c23b1 : decide (0 ≤ (ji22)) = true := decide_eq_true c23
      clear c23
      by_cases c24 : (ji22) ≤ (t229.size : Int)
      ·rw [if_pos c24] at H
       have c24b0 := eq_true c24
       have c24b1 : decide ((ji22) ≤ (t229.size : Int)) = true := decide_eq_true c24
       clear c24
       obtain ⟨y232, hy232⟩ : ∃ y_ : List Int, y_ = (([a3] : List Int)) := ⟨_, rfl⟩
       replace H : (if (t229.extract 0 ((ji22) : Int).toNat).size + (strOfNums y232).size ≤ 9223372036854775807 then (if 0 ≤ (wrap64 ((ji22) + 1)) then (if (wrap64 ((ji22) + 1)) ≤ (t229.size : Int) then (if (t229.extract 0 ((ji22) : Int).toNat).size + (strOfNums y232).size + (t229.extract ((wrap64 ((ji22) + 1)) : Int).toNat t229.size).size ≤ 9223372036854775807 then (if 0 ≤ (Go.bits .and .i64 (a2 / 256) 7) then (if (Go.bits .and .i64 (a2 / 256) 7) ≤ (t230.size : Int) then ((some (([a3] : List Int) : List Int)).bind fun y235 => (if (t230.extract 0 ((Go.bits .and .i64 (a2 / 256) 7) : Int).toNat).size + (strOfNums y235).size ≤ 9223372036854775807 then (if 0 ≤ (wrap64 ((Go.bits .and .i64 (a2 / 256) 7) + 1)) then (if (wrap64 ((Go.bits .and .i64 (a2 / 256) 7) + 1)) ≤ (t230.size : Int) then (if (t230.extract 0 ((Go.bits .and .i64 (a2 / 256) 7) : Int).toNat).size + (strOfNums y235).size + (t230.extract ((wrap64 ((Go.bits .and .i64 (a2 / 256) 7) + 1)) : Int).toNat t230.size).size ≤ 9223372036854775807 then ((some (([(48 + (Int.tmod a3 10)) % 256] : List Int) : List Int)).bind fun y238 => (if (t229.extract 0 ((ji22) : Int).toNat).size + (strOfNums y238).size ≤ 9223372036854775807 then (if (t229.extract 0 ((ji22) : Int).toNat).size + (strOfNums y238).size + (t229.extract ((wrap64 ((ji22) + 1)) : Int).toNat t229.size).size ≤ 9223372036854775807 then ((some (([(48 + (Int.tmod a3 10)) % 256] : List Int) : List Int)).bind fun y241 => (if (t230.extract 0 ((Go.bits .and .i64 (a2 / 256) 7) : Int).toNat).size + (strOfNums y241).size ≤ 9223372036854775807 then (if (t230.extract 0 ((Go.bits .and .i64 (a2 / 256) 7) : Int).toNat).size + (strOfNums y241).size + (t230.extract ((wrap64 ((Go.bits .and .i64 (a2 / 256) 7) + 1)) : Int).toNat t230.size).size ≤ 9223372036854775807 then ((some (([(⟨strOfNums l0, t230⟩ : S37), (⟨t229, strOfNums l0⟩ : S37), (⟨t229, t230⟩ : S37), (⟨((t229.extract 0 ((ji22) : Int).toNat) ++ (strOfNums y232)) ++ (t229.extract ((wrap64 ((ji22) + 1)) : Int).toNat t229.size), t230⟩ : S37), (⟨t229, ((t230.extract 0 ((Go.bits .and .i64 (a2 / 256) 7) : Int).toNat) ++ (strOfNums y235)) ++ (t230.extract ((wrap64 ((Go.bits .and .i64 (a2 / 256) 7) + 1)) : Int).toNat t230.size)⟩ : S37), (⟨((t229.extract 0 ((ji22) : Int).toNat) ++ (strOfNums y238)) ++ (t229.extract ((wrap64 ((ji22) + 1)) : Int).toNat t229.size), t230⟩ : S37), (⟨t229, ((t230.extract 0 ((Go.bits .and .i64 (a2 / 256) 7) : Int).toNat) ++ (strOfNums y241)) ++ (t230.extract ((wrap64 ((Go.bits .and .i64 (a2 / 256) 7) + 1)) : Int).toNat t230.size)⟩ : S37)] : List (S37)) : List (S37))).bind fun y244 => (glebelaw6_DateTells.l1 k1 l0 a3 a4 a5 y244 (y244.length : Int) 0)) else (none)) else (none))) else (none)) else (none))) else (none)) else (none)) else (none)) else (none))) else (none)) else (none)) else (none)) else (none)) else (none)) else (none)) = some r := by first | (rw [hy232]; with_reducible exact H) | (have H2_ := (Option.bind_some _ _).symm.trans H; rw [hy232]; with_reducible exact H2_) | (have H2_ := (Option.bind_some _ _).symm.trans H; with_reducible exact H2_) | with_reducible exact H | (rw [hy232]; exact H) | exact H
       have Ny232 := Aside0.mk hy232
       clear hy232
       by_cases c25 : (t229.extract 0 ((ji22) : Int).toNat).size + (strOfNums y232).size ≤ 9223372036854775807
       ·rw [if_pos c25] at H
        have c25b0 := eq_true c25
        have c25b1 : decide ((t229.extract 0 ((ji22) : Int).toNat).size + (strOfNums y232).size ≤ 9223372036854775807) = true := decide_eq_true c25
        try have c25b2 : (9223372036854775807 < (t229.extract 0 ((ji22) : Int).toNat).size + (strOfNums y232).size) = False := eq_false (Nat.not_lt.2 c25)
        try have c25b3 : (9223372036854775807 < ((ji22) : Int).toNat + (strOfNums y232).size) = False := eq_false (Nat.not_lt.2 (by have h_ := c25; simp only [ByteArray.size_extract] at h_; have h0_ : (ji22) ≤ (t229.size : Int) := of_decide_eq_true (by first | (with_reducible assumption) | assumption); omega))
        obtain ⟨ji26, hji26⟩ : ∃ j_ : Int, (wrap64 ((ji22) + 1)) = j_ := ⟨_, rfl⟩
        replace H : (if 0 ≤ (ji26) then (if (ji26) ≤ (t229.size : Int) then (if (t229.extract 0 ((ji22) : Int).toNat).size + (strOfNums y232).size + (t229.extract ((ji26) : Int).toNat t229.size).size ≤ 9223372036854775807 then (if 0 ≤ (Go.bits .and .i64 (a2 / 256) 7) then (if (Go.bits .and .i64 (a2 / 256) 7) ≤ (t230.size : Int) then ((some (([a3] : List Int) : List Int)).bind fun y235 => (if (t230.extract 0 ((Go.bits .and .i64 (a2 / 256) 7) : Int).toNat).size + (strOfNums y235).size ≤ 9223372036854775807 then (if 0 ≤ (wrap64 ((Go.bits .and .i64 (a2 / 256) 7) + 1)) then (if (wrap64 ((Go.bits .and .i64 (a2 / 256) 7) + 1)) ≤ (t230.size : Int) then (if (t230.extract 0 ((Go.bits .and .i64 (a2 / 256) 7) : Int).toNat).size + (strOfNums y235).size + (t230.extract ((wrap64 ((Go.bits .and .i64 (a2 / 256) 7) + 1)) : Int).toNat t230.size).size ≤ 9223372036854775807 then ((some (([(48 + (Int.tmod a3 10)) % 256] : List Int) : List Int)).bind fun y238 => (if (t229.extract 0 ((ji22) : Int).toNat).size + (strOfNums y238).size ≤ 9223372036854775807 then (if (t229.extract 0 ((ji22) : Int).toNat).size + (strOfNums y238).size + (t229.extract ((ji26) : Int).toNat t229.size).size ≤ 9223372036854775807 then ((some (([(48 + (Int.tmod a3 10)) % 256] : List Int) : List Int)).bind fun y241 => (if (t230.extract 0 ((Go.bits .and .i64 (a2 / 256) 7) : Int).toNat).size + (strOfNums y241).size ≤ 9223372036854775807 then (if (t230.extract 0 ((Go.bits .and .i64 (a2 / 256) 7) : Int).toNat).size + (strOfNums y241).size + (t230.extract ((wrap64 ((Go.bits .and .i64 (a2 / 256) 7) + 1)) : Int).toNat t230.size).size ≤ 9223372036854775807 then ((some (([(⟨strOfNums l0, t230⟩ : S37), (⟨t229, strOfNums l0⟩ : S37), (⟨t229, t230⟩ : S37), (⟨((t229.extract 0 ((ji22) : Int).toNat) ++ (strOfNums y232)) ++ (t229.extract ((ji26) : Int).toNat t229.size), t230⟩ : S37), (⟨t229, ((t230.extract 0 ((Go.bits .and .i64 (a2 / 256) 7) : Int).toNat) ++ (strOfNums y235)) ++ (t230.extract ((wrap64 ((Go.bits .and .i64 (a2 / 256) 7) + 1)) : Int).toNat t230.size)⟩ : S37), (⟨((t229.extract 0 ((ji22) : Int).toNat) ++ (strOfNums y238)) ++ (t229.extract ((ji26) : Int).toNat t229.size), t230⟩ : S37), (⟨t229, ((t230.extract 0 ((Go.bits .and .i64 (a2 / 256) 7) : Int).toNat) ++ (strOfNums y241)) ++ (t230.extract ((wrap64 ((Go.bits .and .i64 (a2 / 256) 7) + 1)) : Int).toNat t230.size)⟩ : S37)] : List (S37)) : List (S37))).bind fun y244 => (glebelaw6_DateTells.l1 k1 l0 a3 a4 a5 y244 (y244.length : Int) 0)) else (none)) else (none))) else (none)) else (none))) else (none)) else (none)) else (none)) else (none))) else (none)) else (none)) else (none)) else (none)) else (none)) = some r := by first | (rw [hji26] at H; exact H) | (simp only [hji26] at H ⊢; exact H)
        (try rw [hji26] at A21)
        have hji26w : (IntKind.i64.wrap ((ji22) + 1)) = ji26 := (i64_w _).trans hji26
        by_cases c27 : 0 ≤ (ji26)
        ·rw [if_pos c27] at H
         have c27b0 := eq_true c27
         have c27b1 : decide (0 ≤ (ji26)) = true := decide_eq_true c27
         clear c27
         by_cases c28 : (ji26) ≤ (t229.size : Int)
         ·rw [if_pos c28] at H
          have c28b0 := eq_true c28
          have c28b1 : decide ((ji26) ≤ (t229.size : Int)) = true := decide_eq_true c28
          clear c28
          by_cases c29 : (t229.extract 0 ((ji22) : Int).toNat).size + (strOfNums y232).size + (t229.extract ((ji26) : Int).toNat t229.size).size ≤ 9223372036854775807
          ·rw [if_pos c29] at H
           have c29b0 := eq_true c29
           have c29b1 : decide ((t229.extract 0 ((ji22) : Int).toNat).size + (strOfNums y232).size + (t229.extract ((ji26) : Int).toNat t229.size).size ≤ 9223372036854775807) = true := decide_eq_true c29
           try have c29b2 : (9223372036854775807 < (t229.extract 0 ((ji22) : Int).toNat).size + (strOfNums y232).size + (t229.extract ((ji26) : Int).toNat t229.size).size) = False := eq_false (Nat.not_lt.2 c29)
           try have c29b3 : (9223372036854775807 < ((ji22) : Int).toNat + (strOfNums y232).size + (t229.size - ((ji26) : Int).toNat)) = False := eq_false (Nat.not_lt.2 (by have h_ := c29; simp only [ByteArray.size_extract] at h_; have h0_ : (ji22) ≤ (t229.size : Int) := of_decide_eq_true (by first | (with_reducible assumption) | assumption); omega))
           obtain ⟨ji30, hji30⟩ : ∃ j_ : Int, (Go.bits .and .i64 (a2 / 256) 7) = j_ := ⟨_, rfl⟩
           replace H : (if 0 ≤ (ji30) then (if (ji30) ≤ (t230.size : Int) then ((some (([a3] : List Int) : List Int)).bind fun y235 => (if (t230.extract 0 ((ji30) : Int).toNat).size + (strOfNums y235).size ≤ 9223372036854775807 then (if 0 ≤ (wrap64 ((ji30) + 1)) then (if (wrap64 ((ji30) + 1)) ≤ (t230.size : Int) then (if (t230.extract 0 ((ji30) : Int).toNat).size + (strOfNums y235).size + (t230.extract ((wrap64 ((ji30) + 1)) : Int).toNat t230.size).size ≤ 9223372036854775807 then ((some (([(48 + (Int.tmod a3 10)) % 256] : List Int) : List Int)).bind fun y238 => (if (t229.extract 0 ((ji22) : Int).toNat).size + (strOfNums y238).size ≤ 9223372036854775807 then (if (t229.extract 0 ((ji22) : Int).toNat).size + (strOfNums y238).size + (t229.extract ((ji26) : Int).toNat t229.size).size ≤ 9223372036854775807 then ((some (([(48 + (Int.tmod a3 10)) % 256] : List Int) : List Int)).bind fun y241 => (if (t230.extract 0 ((ji30) : Int).toNat).size + (strOfNums y241).size ≤ 9223372036854775807 then (if (t230.extract 0 ((ji30) : Int).toNat).size + (strOfNums y241).size + (t230.extract ((wrap64 ((ji30) + 1)) : Int).toNat t230.size).size ≤ 9223372036854775807 then ((some (([(⟨strOfNums l0, t230⟩ : S37), (⟨t229, strOfNums l0⟩ : S37), (⟨t229, t230⟩ : S37), (⟨((t229.extract 0 ((ji22) : Int).toNat) ++ (strOfNums y232)) ++ (t229.extract ((ji26) : Int).toNat t229.size), t230⟩ : S37), (⟨t229, ((t230.extract 0 ((ji30) : Int).toNat) ++ (strOfNums y235)) ++ (t230.extract ((wrap64 ((ji30) + 1)) : Int).toNat t230.size)⟩ : S37), (⟨((t229.extract 0 ((ji22) : Int).toNat) ++ (strOfNums y238)) ++ (t229.extract ((ji26) : Int).toNat t229.size), t230⟩ : S37), (⟨t229, ((t230.extract 0 ((ji30) : Int).toNat) ++ (strOfNums y241)) ++ (t230.extract ((wrap64 ((ji30) + 1)) : Int).toNat t230.size)⟩ : S37)] : List (S37)) : List (S37))).bind fun y244 => (glebelaw6_DateTells.l1 k1 l0 a3 a4 a5 y244 (y244.length : Int) 0)) else (none)) else (none))) else (none)) else (none))) else (none)) else (none)) else (none)) else (none))) else (none)) else (none)) = some r := by first | (rw [hji30] at H; exact H) | (simp only [hji30] at H ⊢; exact H)
           (try rw [hji30] at A21)
           by_cases c31 : 0 ≤ (ji30)
           ·rw [if_pos c31] at H
            have c31b0 := eq_true c31
            have c31b1 : decide (0 ≤ (ji30)) = true := decide_eq_true c31
            clear c31
            by_cases c32 : (ji30) ≤ (t230.size : Int)
            ·rw [if_pos c32] at H
             have c32b0 := eq_true c32
             have c32b1 : decide ((ji30) ≤ (t230.size : Int)) = true := decide_eq_true c32
             clear c32
             obtain ⟨y235, hy235⟩ : ∃ y_ : List Int, y_ = (([a3] : List Int)) := ⟨_, rfl⟩
             replace H : (if (t230.extract 0 ((ji30) : Int).toNat).size + (strOfNums y235).size ≤ 9223372036854775807 then (if 0 ≤ (wrap64 ((ji30) + 1)) then (if (wrap64 ((ji30) + 1)) ≤ (t230.size : Int) then (if (t230.extract 0 ((ji30) : Int).toNat).size + (strOfNums y235).size + (t230.extract ((wrap64 ((ji30) + 1)) : Int).toNat t230.size).size ≤ 9223372036854775807 then ((some (([(48 + (Int.tmod a3 10)) % 256] : List Int) : List Int)).bind fun y238 => (if (t229.extract 0 ((ji22) : Int).toNat).size + (strOfNums y238).size ≤ 9223372036854775807 then (if (t229.extract 0 ((ji22) : Int).toNat).size + (strOfNums y238).size + (t229.extract ((ji26) : Int).toNat t229.size).size ≤ 9223372036854775807 then ((some (([(48 + (Int.tmod a3 10)) % 256] : List Int) : List Int)).bind fun y241 => (if (t230.extract 0 ((ji30) : Int).toNat).size + (strOfNums y241).size ≤ 9223372036854775807 then (if (t230.extract 0 ((ji30) : Int).toNat).size + (strOfNums y241).size + (t230.extract ((wrap64 ((ji30) + 1)) : Int).toNat t230.size).size ≤ 9223372036854775807 then ((some (([(⟨strOfNums l0, t230⟩ : S37), (⟨t229, strOfNums l0⟩ : S37), (⟨t229, t230⟩ : S37), (⟨((t229.extract 0 ((ji22) : Int).toNat) ++ (strOfNums y232)) ++ (t229.extract ((ji26) : Int).toNat t229.size), t230⟩ : S37), (⟨t229, ((t230.extract 0 ((ji30) : Int).toNat) ++ (strOfNums y235)) ++ (t230.extract ((wrap64 ((ji30) + 1)) : Int).toNat t230.size)⟩ : S37), (⟨((t229.extract 0 ((ji22) : Int).toNat) ++ (strOfNums y238)) ++ (t229.extract ((ji26) : Int).toNat t229.size), t230⟩ : S37), (⟨t229, ((t230.extract 0 ((ji30) : Int).toNat) ++ (strOfNums y241)) ++ (t230.extract ((wrap64 ((ji30) + 1)) : Int).toNat t230.size)⟩ : S37)] : List (S37)) : List (S37))).bind fun y244 => (glebelaw6_DateTells.l1 k1 l0 a3 a4 a5 y244 (y244.length : Int) 0)) else (none)) else (none))) else (none)) else (none))) else (none)) else (none)) else (none)) else (none)) = some r := by first | (rw [hy235]; with_reducible exact H) | (have H2_ := (Option.bind_some _ _).symm.trans H; rw [hy235]; with_reducible exact H2_) | (have H2_ := (Option.bind_some _ _).symm.trans H; with_reducible exact H2_) | with_reducible exact H | (rw [hy235]; exact H) | exact H
             have Ny235 := Aside0.mk hy235
             clear hy235
             by_cases c33 : (t230.extract 0 ((ji30) : Int).toNat).size + (strOfNums y235).size ≤ 9223372036854775807
             ·rw [if_pos c33] at H
              have c33b0 := eq_true c33
              have c33b1 : decide ((t230.extract 0 ((ji30) : Int).toNat).size + (strOfNums y235).size ≤ 9223372036854775807) = true := decide_eq_true c33
              try have c33b2 : (9223372036854775807 < (t230.extract 0 ((ji30) : Int).toNat).size + (strOfNums y235).size) = False := eq_false (Nat.not_lt.2 c33)
              try have c33b3 : (9223372036854775807 < ((ji30) : Int).toNat + (strOfNums y235).size) = False := eq_false (Nat.not_lt.2 (by have h_ := c33; simp only [ByteArray.size_extract] at h_; have h0_ : (ji30) ≤ (t230.size : Int) := of_decide_eq_true (by first | (with_reducible assumption) | assumption); omega))
              obtain ⟨ji34, hji34⟩ : ∃ j_ : Int, (wrap64 ((ji30) + 1)) = j_ := ⟨_, rfl⟩
              replace H : (if 0 ≤ (ji34) then (if (ji34) ≤ (t230.size : Int) then (if (t230.extract 0 ((ji30) : Int).toNat).size + (strOfNums y235).size + (t230.extract ((ji34) : Int).toNat t230.size).size ≤ 9223372036854775807 then ((some (([(48 + (Int.tmod a3 10)) % 256] : List Int) : List Int)).bind fun y238 => (if (t229.extract 0 ((ji22) : Int).toNat).size + (strOfNums y238).size ≤ 9223372036854775807 then (if (t229.extract 0 ((ji22) : Int).toNat).size + (strOfNums y238).size + (t229.extract ((ji26) : Int).toNat t229.size).size ≤ 9223372036854775807 then ((some (([(48 + (Int.tmod a3 10)) % 256] : List Int) : List Int)).bind fun y241 => (if (t230.extract 0 ((ji30) : Int).toNat).size + (strOfNums y241).size ≤ 9223372036854775807 then (if (t230.extract 0 ((ji30) : Int).toNat).size + (strOfNums y241).size + (t230.extract ((ji34) : Int).toNat t230.size).size ≤ 9223372036854775807 then ((some (([(⟨strOfNums l0, t230⟩ : S37), (⟨t229, strOfNums l0⟩ : S37), (⟨t229, t230⟩ : S37), (⟨((t229.extract 0 ((ji22) : Int).toNat) ++ (strOfNums y232)) ++ (t229.extract ((ji26) : Int).toNat t229.size), t230⟩ : S37), (⟨t229, ((t230.extract 0 ((ji30) : Int).toNat) ++ (strOfNums y235)) ++ (t230.extract ((ji34) : Int).toNat t230.size)⟩ : S37), (⟨((t229.extract 0 ((ji22) : Int).toNat) ++ (strOfNums y238)) ++ (t229.extract ((ji26) : Int).toNat t229.size), t230⟩ : S37), (⟨t229, ((t230.extract 0 ((ji30) : Int).toNat) ++ (strOfNums y241)) ++ (t230.extract ((ji34) : Int).toNat t230.size)⟩ : S37)] : List (S37)) : List (S37))).bind fun y244 => (glebelaw6_DateTells.l1 k1 l0 a3 a4 a5 y244 (y244.length : Int) 0)) else (none)) else (none))) else (none)) else (none))) else (none)) else (none)) else (none)) = some r := by first | (rw [hji34] at H; exact H) | (simp only [hji34] at H ⊢; exact H)
              (try rw [hji34] at A21)
              have hji34w : (IntKind.i64.wrap ((ji30) + 1)) = ji34 := (i64_w _).trans hji34
              by_cases c35 : 0 ≤ (ji34)
              ·rw [if_pos c35] at H
               have c35b0 := eq_true c35
               have c35b1 : decide (0 ≤ (ji34)) = true := decide_eq_true c35
               clear c35
               by_cases c36 : (ji34) ≤ (t230.size : Int)
               ·rw [if_pos c36] at H
                have c36b0 := eq_true c36
                have c36b1 : decide ((ji34) ≤ (t230.size : Int)) = true := decide_eq_true c36
                clear c36
                by_cases c37 : (t230.extract 0 ((ji30) : Int).toNat).size + (strOfNums y235).size + (t230.extract ((ji34) : Int).toNat t230.size).size ≤ 9223372036854775807
                ·rw [if_pos c37] at H
                 have c37b0 := eq_true c37
                 have c37b1 : decide ((t230.extract 0 ((ji30) : Int).toNat).size + (strOfNums y235).size + (t230.extract ((ji34) : Int).toNat t230.size).size ≤ 9223372036854775807) = true := decide_eq_true c37
                 try have c37b2 : (9223372036854775807 < (t230.extract 0 ((ji30) : Int).toNat).size + (strOfNums y235).size + (t230.extract ((ji34) : Int).toNat t230.size).size) = False := eq_false (Nat.not_lt.2 c37)
                 try have c37b3 : (9223372036854775807 < ((ji30) : Int).toNat + (strOfNums y235).size + (t230.size - ((ji34) : Int).toNat)) = False := eq_false (Nat.not_lt.2 (by have h_ := c37; simp only [ByteArray.size_extract] at h_; have h0_ : (ji30) ≤ (t230.size : Int) := of_decide_eq_true (by first | (with_reducible assumption) | assumption); omega))
                 have c38b0 := eq_true (of_decide_eq_true (by first | (with_reducible assumption) | assumption) : 0 ≤ (ji22))
                 have c39b0 := eq_true (of_decide_eq_true (by first | (with_reducible assumption) | assumption) : (ji22) ≤ (t229.size : Int))
                 obtain ⟨y238, hy238⟩ : ∃ y_ : List Int, y_ = (([(48 + (Int.tmod a3 10)) % 256] : List Int)) := ⟨_, rfl⟩
                 replace H : (if (t229.extract 0 ((ji22) : Int).toNat).size + (strOfNums y238).size ≤ 9223372036854775807 then (if (t229.extract 0 ((ji22) : Int).toNat).size + (strOfNums y238).size + (t229.extract ((ji26) : Int).toNat t229.size).size ≤ 9223372036854775807 then ((some (([(48 + (Int.tmod a3 10)) % 256] : List Int) : List Int)).bind fun y241 => (if (t230.extract 0 ((ji30) : Int).toNat).size + (strOfNums y241).size ≤ 9223372036854775807 then (if (t230.extract 0 ((ji30) : Int).toNat).size + (strOfNums y241).size + (t230.extract ((ji34) : Int).toNat t230.size).size ≤ 9223372036854775807 then ((some (([(⟨strOfNums l0, t230⟩ : S37), (⟨t229, strOfNums l0⟩ : S37), (⟨t229, t230⟩ : S37), (⟨((t229.extract 0 ((ji22) : Int).toNat) ++ (strOfNums y232)) ++ (t229.extract ((ji26) : Int).toNat t229.size), t230⟩ : S37), (⟨t229, ((t230.extract 0 ((ji30) : Int).toNat) ++ (strOfNums y235)) ++ (t230.extract ((ji34) : Int).toNat t230.size)⟩ : S37), (⟨((t229.extract 0 ((ji22) : Int).toNat) ++ (strOfNums y238)) ++ (t229.extract ((ji26) : Int).toNat t229.size), t230⟩ : S37), (⟨t229, ((t230.extract 0 ((ji30) : Int).toNat) ++ (strOfNums y241)) ++ (t230.extract ((ji34) : Int).toNat t230.size)⟩ : S37)] : List (S37)) : List (S37))).bind fun y244 => (glebelaw6_DateTells.l1 k1 l0 a3 a4 a5 y244 (y244.length : Int) 0)) else (none)) else (none))) else (none)) else (none)) = some r := by first | (rw [hy238]; with_reducible exact H) | (have H2_ := (Option.bind_some _ _).symm.trans H; rw [hy238]; with_reducible exact H2_) | (have H2_ := (Option.bind_some _ _).symm.trans H; with_reducible exact H2_) | with_reducible exact H | (rw [hy238]; exact H) | exact H
                 have Ny238 := Aside0.mk hy238
                 clear hy238
                 by_cases c40 : (t229.extract 0 ((ji22) : Int).toNat).size + (strOfNums y238).size ≤ 9223372036854775807
                 ·rw [if_pos c40] at H
                  have c40b0 := eq_true c40
                  have c40b1 : decide ((t229.extract 0 ((ji22) : Int).toNat).size + (strOfNums y238).size ≤ 9223372036854775807) = true := decide_eq_true c40
                  try have c40b2 : (9223372036854775807 < (t229.extract 0 ((ji22) : Int).toNat).size + (strOfNums y238).size) = False := eq_false (Nat.not_lt.2 c40)
                  try have c40b3 : (9223372036854775807 < ((ji22) : Int).toNat + (strOfNums y238).size) = False := eq_false (Nat.not_lt.2 (by have h_ := c40; simp only [ByteArray.size_extract] at h_; have h0_ : (ji22) ≤ (t229.size : Int) := of_decide_eq_true (by first | (with_reducible assumption) | assumption); omega))
                  have c41b0 := eq_true (of_decide_eq_true (by first | (with_reducible assumption) | assumption) : 0 ≤ (ji26))
                  have c42b0 := eq_true (of_decide_eq_true (by first | (with_reducible assumption) | assumption) : (ji26) ≤ (t229.size : Int))
                  by_cases c43 : (t229.extract 0 ((ji22) : Int).toNat).size + (strOfNums y238).size + (t229.extract ((ji26) : Int).toNat t229.size).size ≤ 9223372036854775807
                  ·rw [if_pos c43] at H
                   have c43b0 := eq_true c43
                   have c43b1 : decide ((t229.extract 0 ((ji22) : Int).toNat).size + (strOfNums y238).size + (t229.extract ((ji26) : Int).toNat t229.size).size ≤ 9223372036854775807) = true := decide_eq_true c43
                   try have c43b2 : (9223372036854775807 < (t229.extract 0 ((ji22) : Int).toNat).size + (strOfNums y238).size + (t229.extract ((ji26) : Int).toNat t229.size).size) = False := eq_false (Nat.not_lt.2 c43)
                   try have c43b3 : (9223372036854775807 < ((ji22) : Int).toNat + (strOfNums y238).size + (t229.size - ((ji26) : Int).toNat)) = False := eq_false (Nat.not_lt.2 (by have h_ := c43; simp only [ByteArray.size_extract] at h_; have h0_ : (ji22) ≤ (t229.size : Int) := of_decide_eq_true (by first | (with_reducible assumption) | assumption); omega))
                   have c44b0 := eq_true (of_decide_eq_true (by first | (with_reducible assumption) | assumption) : 0 ≤ (ji30))
                   have c45b0 := eq_true (of_decide_eq_true (by first | (with_reducible assumption) | assumption) : (ji30) ≤ (t230.size : Int))
                   obtain ⟨y241, hy241⟩ : ∃ y_ : List Int, y_ = (([(48 + (Int.tmod a3 10)) % 256] : List Int)) := ⟨_, rfl⟩
                   replace H : (if (t230.extract 0 ((ji30) : Int).toNat).size + (strOfNums y241).size ≤ 9223372036854775807 then (if (t230.extract 0 ((ji30) : Int).toNat).size + (strOfNums y241).size + (t230.extract ((ji34) : Int).toNat t230.size).size ≤ 9223372036854775807 then ((some (([(⟨strOfNums l0, t230⟩ : S37), (⟨t229, strOfNums l0⟩ : S37), (⟨t229, t230⟩ : S37), (⟨((t229.extract 0 ((ji22) : Int).toNat) ++ (strOfNums y232)) ++ (t229.extract ((ji26) : Int).toNat t229.size), t230⟩ : S37), (⟨t229, ((t230.extract 0 ((ji30) : Int).toNat) ++ (strOfNums y235)) ++ (t230.extract ((ji34) : Int).toNat t230.size)⟩ : S37), (⟨((t229.extract 0 ((ji22) : Int).toNat) ++ (strOfNums y238)) ++ (t229.extract ((ji26) : Int).toNat t229.size), t230⟩ : S37), (⟨t229, ((t230.extract 0 ((ji30) : Int).toNat) ++ (strOfNums y241)) ++ (t230.extract ((ji34) : Int).toNat t230.size)⟩ : S37)] : List (S37)) : List (S37))).bind fun y244 => (glebelaw6_DateTells.l1 k1 l0 a3 a4 a5 y244 (y244.length : Int) 0)) else (none)) else (none)) = some r := by first | (rw [hy241]; with_reducible exact H) | (have H2_ := (Option.bind_some _ _).symm.trans H; rw [hy241]; with_reducible exact H2_) | (have H2_ := (Option.bind_some _ _).symm.trans H; with_reducible exact H2_) | with_reducible exact H | (rw [hy241]; exact H) | exact H
                   have Ny241 := Aside0.mk hy241
                   clear hy241
                   by_cases c46 : (t230.extract 0 ((ji30) : Int).toNat).size + (strOfNums y241).size ≤ 9223372036854775807
                   ·rw [if_pos c46] at H
                    have c46b0 := eq_true c46
                    have c46b1 : decide ((t230.extract 0 ((ji30) : Int).toNat).size + (strOfNums y241).size ≤ 9223372036854775807) = true := decide_eq_true c46
                    try have c46b2 : (9223372036854775807 < (t230.extract 0 ((ji30) : Int).toNat).size + (strOfNums y241).size) = False := eq_false (Nat.not_lt.2 c46)
                    try have c46b3 : (9223372036854775807 < ((ji30) : Int).toNat + (strOfNums y241).size) = False := eq_false (Nat.not_lt.2 (by have h_ := c46; simp only [ByteArray.size_extract] at h_; have h0_ : (ji30) ≤ (t230.size : Int) := of_decide_eq_true (by first | (with_reducible assumption) | assumption); omega))
                    have c47b0 := eq_true (of_decide_eq_true (by first | (with_reducible assumption) | assumption) : 0 ≤ (ji34))
                    have c48b0 := eq_true (of_decide_eq_true (by first | (with_reducible assumption) | assumption) : (ji34) ≤ (t230.size : Int))
                    by_cases c49 : (t230.extract 0 ((ji30) : Int).toNat).size + (strOfNums y241).size + (t230.extract ((ji34) : Int).toNat t230.size).size ≤ 9223372036854775807
                    ·rw [if_pos c49] at H
                     have c49b0 := eq_true c49
                     have c49b1 : decide ((t230.extract 0 ((ji30) : Int).toNat).size + (strOfNums y241).size + (t230.extract ((ji34) : Int).toNat t230.size).size ≤ 9223372036854775807) = true := decide_eq_true c49
                     try have c49b2 : (9223372036854775807 < (t230.extract 0 ((ji30) : Int).toNat).size + (strOfNums y241).size + (t230.extract ((ji34) : Int).toNat t230.size).size) = False := eq_false (Nat.not_lt.2 c49)
                     try have c49b3 : (9223372036854775807 < ((ji30) : Int).toNat + (strOfNums y241).size + (t230.size - ((ji34) : Int).toNat)) = False := eq_false (Nat.not_lt.2 (by have h_ := c49; simp only [ByteArray.size_extract] at h_; have h0_ : (ji30) ≤ (t230.size : Int) := of_decide_eq_true (by first | (with_reducible assumption) | assumption); omega))
                     obtain ⟨y244, hy244⟩ : ∃ y_ : List (S37), y_ = (([(⟨strOfNums l0, t230⟩ : S37), (⟨t229, strOfNums l0⟩ : S37), (⟨t229, t230⟩ : S37), (⟨((t229.extract 0 ((ji22) : Int).toNat) ++ (strOfNums y232)) ++ (t229.extract ((ji26) : Int).toNat t229.size), t230⟩ : S37), (⟨t229, ((t230.extract 0 ((ji30) : Int).toNat) ++ (strOfNums y235)) ++ (t230.extract ((ji34) : Int).toNat t230.size)⟩ : S37), (⟨((t229.extract 0 ((ji22) : Int).toNat) ++ (strOfNums y238)) ++ (t229.extract ((ji26) : Int).toNat t229.size), t230⟩ : S37), (⟨t229, ((t230.extract 0 ((ji30) : Int).toNat) ++ (strOfNums y241)) ++ (t230.extract ((ji34) : Int).toNat t230.size)⟩ : S37)] : List (S37))) := ⟨_, rfl⟩
                     replace H : (glebelaw6_DateTells.l1 k1 l0 a3 a4 a5 y244 (y244.length : Int) 0) = some r := by first | (rw [hy244]; with_reducible exact H) | (have H2_ := (Option.bind_some _ _).symm.trans H; rw [hy244]; with_reducible exact H2_) | (have H2_ := (Option.bind_some _ _).symm.trans H; with_reducible exact H2_) | with_reducible exact H | (rw [hy244]; exact H) | exact H
                     have Ny244 := Aside0.mk hy244
                     clear hy244
                     have H' := Aside0.mk H
                     clear H
                     try go_wp2_with (first | ((with_reducible refine gate_callee (f := 21) rfl ?_); refine goesL_ (some 82) rfl rfl Tryd.func21 (by kernel_rfl) rfl #[.int .u64 x1_1] rfl (by (try simp only [List.map_toArray, List.map_cons, List.map_nil]); first | done | rfl | (simp only [List.length_drop, List.length_take]; rfl)) ?_; (with_reducible refine (gleberef1_PrintDate.calls k1 x1_1 t229 t230 t231 _ A21.out).mono ?_); rintro e w50 ⟨rfl, hb⟩; refine ⟨_, rfl, ?_⟩; have n0_ := Aside0.mk (below_step (by repeat (first | (with_reducible first | exact HB.out | apply below_alloc | apply pw_below_drewN | apply below_drew1) | exact HB.out)) hb); clear HB; have HB := n0_; clear n0_; (try clear hb); (try clear hb2); (try clear hk); (try clear hi)))
                     have n0_ := Aside0.mk (below_drew1 HB.out)
                     clear HB
                     have HB := n0_
                     clear n0_
                     refine start_ (n := 74) (S := fun w' => True) (ds := []) #[false, false, false, false, false, false, false, false, false, false, false, false, false, false, false, false, false, false, false, false, false, false, false, false, false, false, false, false, false, false, false, false, false, false, false, false, false, false, false, false, false, false, false, false, false, false, false, false, false, false, false, false, false, false, false, false, false, false, false, false, false, false, false, false, false, false, false, false, false, false, false, false, false, false] (by kernel_rfl) rfl rfl trivial (fun hHeld => ?_); refine with_tabW glebelaw6_DateTells.tab14 glebelaw6_DateTells.bits14 (fun HT_ HW_ => ?_)
                     generalize w50.drew = w51 at HB hHeld ⊢
                     refine pure_ (i := 0) (N := some 92) (v := ?_) (a' := ?_) #[true, false, false, false, false, false, false, false, false, false, false, false, false, false, false, false, false, false, false, false, false, false, false, false, false, false, false, false, false, false, false, false, false, false, false, false, false, false, false, false, false, false, false, false, false, false, false, false, false, false, false, false, false, false, false, false, false, false, false, false, false, false, false, false, false, false, false, false, false, false, false, false, false, false] rfl rfl (any_of HT_.out (by kernel_rfl)) (fun _ _ _ h => h) (Or.inl ⟨by rfl, ?_⟩) ?_ ?_
                     rotate_left
                     ·intro w'
                      go_simp
                      with_reducible rfl
                     rotate_left
                     ·simp only [Act.put, List.setIfInBounds_toArray, List.set_cons_zero, List.set_cons_succ, i64_w, i32_w]
                      rfl
                     refine pure_ (i := 2) (N := some 94) (v := ?_) (a' := ?_) #[true, false, true, false, false, false, false, false, false, false, false, false, false, false, false, false, false, false, false, false, false, false, false, false, false, false, false, false, false, false, false, false, false, false, false, false, false, false, false, false, false, false, false, false, false, false, false, false, false, false, false, false, false, false, false, false, false, false, false, false, false, false, false, false, false, false, false, false, false, false, false, false, false, false] rfl rfl (any_of HT_.out (by kernel_rfl)) (fun _ _ _ h => h) (Or.inl ⟨by rfl, ?_⟩) ?_ ?_
                     rotate_left
                     ·intro w'
                      go_simp
                      with_reducible rfl
                     rotate_left
                     ·simp only [Act.put, List.setIfInBounds_toArray, List.set_cons_zero, List.set_cons_succ, i64_w, i32_w]
                      rfl
                     refine pure_ (i := 4) (N := some 96) (v := ?_) (a' := ?_) #[true, false, true, false, true, false, false, false, false, false, false, false, false, false, false, false, false, false, false, false, false, false, false, false, false, false, false, false, false, false, false, false, false, false, false, false, false, false, false, false, false, false, false, false, false, false, false, false, false, false, false, false, false, false, false, false, false, false, false, false, false, false, false, false, false, false, false, false, false, false, false, false, false, false] rfl rfl (any_of HT_.out (by kernel_rfl)) (fun _ _ _ h => h) (Or.inl ⟨by rfl, ?_⟩) ?_ ?_
                     rotate_left
                     ·intro w'
                      go_simp
                      with_reducible rfl
                     rotate_left
                     ·simp only [Act.put, List.setIfInBounds_toArray, List.set_cons_zero, List.set_cons_succ, i64_w, i32_w]
                      rfl
                     refine pure_ (i := 5) (N := some 97) (v := ?_) (a' := ?_) #[true, false, true, false, true, true, false, false, false, false, false, false, false, false, false, false, false, false, false, false, false, false, false, false, false, false, false, false, false, false, false, false, false, false, false, false, false, false, false, false, false, false, false, false, false, false, false, false, false, false, false, false, false, false, false, false, false, false, false, false, false, false, false, false, false, false, false, false, false, false, false, false, false, false] rfl rfl (any_of HT_.out (by kernel_rfl)) (fun _ _ _ h => h) (Or.inl ⟨by rfl, ?_⟩) ?_ ?_
                     rotate_left
                     ·intro w'
                      go_simp
                      with_reducible rfl
                     rotate_left
                     ·simp only [Act.put, List.setIfInBounds_toArray, List.set_cons_zero, List.set_cons_succ, i64_w, i32_w]
                      rfl
                     refine pure_ (i := 8) (N := some 100) (v := ?_) (a' := ?_) #[true, false, true, false, true, true, false, false, true, false, false, false, false, false, false, false, false, false, false, false, false, false, false, false, false, false, false, false, false, false, false, false, false, false, false, false, false, false, false, false, false, false, false, false, false, false, false, false, false, false, false, false, false, false, false, false, false, false, false, false, false, false, false, false, false, false, false, false, false, false, false, false, false, false] rfl rfl (any_of HT_.out (by kernel_rfl)) (fun _ _ _ h => h) (Or.inl ⟨by rfl, ?_⟩) ?_ ?_
                     rotate_left
                     ·intro w'
                      go_simp
                      with_reducible rfl
                     rotate_left
                     ·simp only [Act.put, List.setIfInBounds_toArray, List.set_cons_zero, List.set_cons_succ, i64_w, i32_w]
                      rfl
                     refine pure_ (i := 9) (N := some 101) (v := ?_) (a' := ?_) #[true, false, true, false, true, true, false, false, true, true, false, false, false, false, false, false, false, false, false, false, false, false, false, false, false, false, false, false, false, false, false, false, false, false, false, false, false, false, false, false, false, false, false, false, false, false, false, false, false, false, false, false, false, false, false, false, false, false, false, false, false, false, false, false, false, false, false, false, false, false, false, false, false, false] rfl rfl (any_of HT_.out (by kernel_rfl)) (fun _ _ _ h => h) (Or.inl ⟨by rfl, ?_⟩) ?_ ?_
                     rotate_left
                     ·intro w'
                      go_simp
                      with_reducible rfl
                     rotate_left
                     ·simp only [Act.put, List.setIfInBounds_toArray, List.set_cons_zero, List.set_cons_succ, i64_w, i32_w]
                      rfl
                     refine pure_ (i := 11) (N := some 103) (v := ?_) (a' := ?_) #[true, false, true, false, true, true, false, false, true, true, false, true, false, false, false, false, false, false, false, false, false, false, false, false, false, false, false, false, false, false, false, false, false, false, false, false, false, false, false, false, false, false, false, false, false, false, false, false, false, false, false, false, false, false, false, false, false, false, false, false, false, false, false, false, false, false, false, false, false, false, false, false, false, false] rfl rfl (any_of HT_.out (by kernel_rfl)) (fun _ _ _ h => h) (Or.inl ⟨by rfl, ?_⟩) ?_ ?_
                     rotate_left
                     ·intro w'
                      go_simp
                      with_reducible rfl
                     rotate_left
                     ·simp only [Act.put, List.setIfInBounds_toArray, List.set_cons_zero, List.set_cons_succ, i64_w, i32_w]
                      rfl
                     refine pure_ (i := 12) (N := some 104) (v := ?_) (a' := ?_) #[true, false, true, false, true, true, false, false, true, true, false, true, true, false, false, false, false, false, false, false, false, false, false, false, false, false, false, false, false, false, false, false, false, false, false, false, false, false, false, false, false, false, false, false, false, false, false, false, false, false, false, false, false, false, false, false, false, false, false, false, false, false, false, false, false, false, false, false, false, false, false, false, false, false] rfl rfl (any_of HT_.out (by kernel_rfl)) (fun _ _ _ h => h) (Or.inl ⟨by rfl, ?_⟩) ?_ ?_
                     rotate_left
                     ·intro w'
                      go_simp
                      with_reducible rfl
                     rotate_left
                     ·simp only [Act.put, List.setIfInBounds_toArray, List.set_cons_zero, List.set_cons_succ, i64_w, i32_w]
                      rfl
                     refine pure_ (i := 14) (N := some 106) (v := ?_) (a' := ?_) #[true, false, true, false, true, true, false, false, true, true, false, true, true, false, true, false, false, false, false, false, false, false, false, false, false, false, false, false, false, false, false, false, false, false, false, false, false, false, false, false, false, false, false, false, false, false, false, false, false, false, false, false, false, false, false, false, false, false, false, false, false, false, false, false, false, false, false, false, false, false, false, false, false, false] rfl rfl (any_of HT_.out (by kernel_rfl)) (fun _ _ _ h => h) (Or.inl ⟨by rfl, ?_⟩) ?_ ?_
                     rotate_left
                     ·intro w'
                      go_simp
                      with_reducible rfl
                     rotate_left
                     ·simp only [Act.put, List.setIfInBounds_toArray, List.set_cons_zero, List.set_cons_succ, i64_w, i32_w]
                      rfl
                     refine pure_ (i := 18) (N := some 110) (v := ?_) (a' := ?_) #[true, false, true, false, true, true, false, false, true, true, false, true, true, false, true, false, false, false, true, false, false, false, false, false, false, false, false, false, false, false, false, false, false, false, false, false, false, false, false, false, false, false, false, false, false, false, false, false, false, false, false, false, false, false, false, false, false, false, false, false, false, false, false, false, false, false, false, false, false, false, false, false, false, false] rfl rfl (any_of HT_.out (by kernel_rfl)) (fun _ _ _ h => h) (Or.inl ⟨by rfl, ?_⟩) ?_ ?_
                     rotate_left
                     ·intro w'
                      go_simp
                      with_reducible rfl
                     rotate_left
                     ·simp only [Act.put, List.setIfInBounds_toArray, List.set_cons_zero, List.set_cons_succ, i64_w, i32_w]
                      rfl
                     refine pure_ (i := 19) (N := some 111) (v := ?_) (a' := ?_) #[true, false, true, false, true, true, false, false, true, true, false, true, true, false, true, false, false, false, true, true, false, false, false, false, false, false, false, false, false, false, false, false, false, false, false, false, false, false, false, false, false, false, false, false, false, false, false, false, false, false, false, false, false, false, false, false, false, false, false, false, false, false, false, false, false, false, false, false, false, false, false, false, false, false] rfl rfl (any_of HT_.out (by kernel_rfl)) (fun _ _ _ h => h) (Or.inl ⟨by rfl, ?_⟩) ?_ ?_
                     rotate_left
                     ·intro w'
                      go_simp
                      with_reducible rfl
                     rotate_left
                     ·simp only [Act.put, List.setIfInBounds_toArray, List.set_cons_zero, List.set_cons_succ, i64_w, i32_w]
                      rfl
                     refine pure_ (i := 23) (N := some 115) (v := ?_) (a' := ?_) #[true, false, true, false, true, true, false, false, true, true, false, true, true, false, true, false, false, false, true, true, false, false, false, true, false, false, false, false, false, false, false, false, false, false, false, false, false, false, false, false, false, false, false, false, false, false, false, false, false, false, false, false, false, false, false, false, false, false, false, false, false, false, false, false, false, false, false, false, false, false, false, false, false, false] rfl rfl (any_of HT_.out (by kernel_rfl)) (fun _ _ _ h => h) (Or.inl ⟨by rfl, ?_⟩) ?_ ?_
                     rotate_left
                     ·intro w'
                      go_simp
                      with_reducible rfl
                     rotate_left
                     ·simp only [Act.put, List.setIfInBounds_toArray, List.set_cons_zero, List.set_cons_succ, i64_w, i32_w]
                      rfl
                     refine pure_ (i := 25) (N := some 117) (v := ?_) (a' := ?_) #[true, false, true, false, true, true, false, false, true, true, false, true, true, false, true, false, false, false, true, true, false, false, false, true, false, true, false, false, false, false, false, false, false, false, false, false, false, false, false, false, false, false, false, false, false, false, false, false, false, false, false, false, false, false, false, false, false, false, false, false, false, false, false, false, false, false, false, false, false, false, false, false, false, false] rfl rfl (any_of HT_.out (by kernel_rfl)) (fun _ _ _ h => h) (Or.inl ⟨by rfl, ?_⟩) ?_ ?_
                     rotate_left
                     ·intro w'
                      go_simp
                      with_reducible rfl
                     rotate_left
                     ·simp only [Act.put, List.setIfInBounds_toArray, List.set_cons_zero, List.set_cons_succ, i64_w, i32_w]
                      rfl
                     refine pure_ (i := 26) (N := some 118) (v := ?_) (a' := ?_) #[true, false, true, false, true, true, false, false, true, true, false, true, true, false, true, false, false, false, true, true, false, false, false, true, false, true, true, false, false, false, false, false, false, false, false, false, false, false, false, false, false, false, false, false, false, false, false, false, false, false, false, false, false, false, false, false, false, false, false, false, false, false, false, false, false, false, false, false, false, false, false, false, false, false] rfl rfl (any_of HT_.out (by kernel_rfl)) (fun _ _ _ h => h) (Or.inl ⟨by rfl, ?_⟩) ?_ ?_
                     rotate_left
                     ·intro w'
                      go_simp
                      with_reducible rfl
                     rotate_left
                     ·simp only [Act.put, List.setIfInBounds_toArray, List.set_cons_zero, List.set_cons_succ, i64_w, i32_w]
                      rfl
                     refine pure_ (i := 27) (N := some 119) (v := ?_) (a' := ?_) #[true, false, true, false, true, true, false, false, true, true, false, true, true, false, true, false, false, false, true, true, false, false, false, true, false, true, true, true, false, false, false, false, false, false, false, false, false, false, false, false, false, false, false, false, false, false, false, false, false, false, false, false, false, false, false, false, false, false, false, false, false, false, false, false, false, false, false, false, false, false, false, false, false, false] rfl rfl (any_of HT_.out (by kernel_rfl)) (fun _ _ _ h => h) (Or.inl ⟨by rfl, ?_⟩) ?_ ?_
                     rotate_left
                     ·intro w'
                      go_simp
                      with_reducible rfl
                     rotate_left
                     ·simp only [Act.put, List.setIfInBounds_toArray, List.set_cons_zero, List.set_cons_succ, i64_w, i32_w]
                      rfl
                     refine pure_ (i := 29) (N := some 121) (v := ?_) (a' := ?_) #[true, false, true, false, true, true, false, false, true, true, false, true, true, false, true, false, false, false, true, true, false, false, false, true, false, true, true, true, false, true, false, false, false, false, false, false, false, false, false, false, false, false, false, false, false, false, false, false, false, false, false, false, false, false, false, false, false, false, false, false, false, false, false, false, false, false, false, false, false, false, false, false, false, false] rfl rfl (any_of HT_.out (by kernel_rfl)) (fun _ _ _ h => h) (Or.inl ⟨by rfl, ?_⟩) ?_ ?_
                     rotate_left
                     ·intro w'
                      go_simp
                      with_reducible rfl
                     rotate_left
                     ·simp only [Act.put, List.setIfInBounds_toArray, List.set_cons_zero, List.set_cons_succ, i64_w, i32_w]
                      rfl
                     refine pure_ (i := 33) (N := some 125) (v := ?_) (a' := ?_) #[true, false, true, false, true, true, false, false, true, true, false, true, true, false, true, false, false, false, true, true, false, false, false, true, false, true, true, true, false, true, false, false, false, true, false, false, false, false, false, false, false, false, false, false, false, false, false, false, false, false, false, false, false, false, false, false, false, false, false, false, false, false, false, false, false, false, false, false, false, false, false, false, false, false] rfl rfl (any_of HT_.out (by kernel_rfl)) (fun _ _ _ h => h) (Or.inl ⟨by rfl, ?_⟩) ?_ ?_
                     rotate_left
                     ·intro w'
                      go_simp
                      with_reducible rfl
                     rotate_left
                     ·simp only [Act.put, List.setIfInBounds_toArray, List.set_cons_zero, List.set_cons_succ, i64_w, i32_w]
                      rfl
                     refine pure_ (i := 34) (N := some 126) (v := ?_) (a' := ?_) #[true, false, true, false, true, true, false, false, true, true, false, true, true, false, true, false, false, false, true, true, false, false, false, true, false, true, true, true, false, true, false, false, false, true, true, false, false, false, false, false, false, false, false, false, false, false, false, false, false, false, false, false, false, false, false, false, false, false, false, false, false, false, false, false, false, false, false, false, false, false, false, false, false, false] rfl rfl (any_of HT_.out (by kernel_rfl)) (fun _ _ _ h => h) (Or.inl ⟨by rfl, ?_⟩) ?_ ?_
                     rotate_left
                     ·intro w'
                      go_simp
                      with_reducible rfl
                     rotate_left
                     ·simp only [Act.put, List.setIfInBounds_toArray, List.set_cons_zero, List.set_cons_succ, i64_w, i32_w]
                      rfl
                     refine pure_ (i := 39) (N := some 131) (v := ?_) (a' := ?_) #[true, false, true, false, true, true, false, false, true, true, false, true, true, false, true, false, false, false, true, true, false, false, false, true, false, true, true, true, false, true, false, false, false, true, true, false, false, false, false, true, false, false, false, false, false, false, false, false, false, false, false, false, false, false, false, false, false, false, false, false, false, false, false, false, false, false, false, false, false, false, false, false, false, false] rfl rfl (any_of HT_.out (by kernel_rfl)) (fun _ _ _ h => h) (Or.inl ⟨by rfl, ?_⟩) ?_ ?_
                     rotate_left
                     ·intro w'
                      go_simp
                      with_reducible rfl
                     rotate_left
                     ·simp only [Act.put, List.setIfInBounds_toArray, List.set_cons_zero, List.set_cons_succ, i64_w, i32_w]
                      rfl
                     refine pure_ (i := 40) (N := some 132) (v := ?_) (a' := ?_) #[true, false, true, false, true, true, false, false, true, true, false, true, true, false, true, false, false, false, true, true, false, false, false, true, false, true, true, true, false, true, false, false, false, true, true, false, false, false, false, true, true, false, false, false, false, false, false, false, false, false, false, false, false, false, false, false, false, false, false, false, false, false, false, false, false, false, false, false, false, false, false, false, false, false] rfl rfl (any_of HT_.out (by kernel_rfl)) (fun _ _ _ h => h) (Or.inl ⟨by rfl, ?_⟩) ?_ ?_
                     rotate_left
                     ·intro w'
                      go_simp
                      with_reducible rfl
                     rotate_left
                     ·simp only [Act.put, List.setIfInBounds_toArray, List.set_cons_zero, List.set_cons_succ, i64_w, i32_w]
                      rfl
                     refine pure_ (i := 42) (N := some 134) (v := ?_) (a' := ?_) #[true, false, true, false, true, true, false, false, true, true, false, true, true, false, true, false, false, false, true, true, false, false, false, true, false, true, true, true, false, true, false, false, false, true, true, false, false, false, false, true, true, false, true, false, false, false, false, false, false, false, false, false, false, false, false, false, false, false, false, false, false, false, false, false, false, false, false, false, false, false, false, false, false, false] rfl rfl (any_of HT_.out (by kernel_rfl)) (fun _ _ _ h => h) (Or.inl ⟨by rfl, ?_⟩) ?_ ?_
                     rotate_left
                     ·intro w'
                      go_simp
                      with_reducible rfl
                     rotate_left
                     ·simp only [Act.put, List.setIfInBounds_toArray, List.set_cons_zero, List.set_cons_succ, i64_w, i32_w]
                      rfl
                     refine pure_ (i := 48) (N := some 140) (v := ?_) (a' := ?_) #[true, false, true, false, true, true, false, false, true, true, false, true, true, false, true, false, false, false, true, true, false, false, false, true, false, true, true, true, false, true, false, false, false, true, true, false, false, false, false, true, true, false, true, false, false, false, false, false, true, false, false, false, false, false, false, false, false, false, false, false, false, false, false, false, false, false, false, false, false, false, false, false, false, false] rfl rfl (any_of HT_.out (by kernel_rfl)) (fun _ _ _ h => h) (Or.inl ⟨by rfl, ?_⟩) ?_ ?_
                     rotate_left
                     ·intro w'
                      go_simp
                      with_reducible rfl
                     rotate_left
                     ·simp only [Act.put, List.setIfInBounds_toArray, List.set_cons_zero, List.set_cons_succ, i64_w, i32_w]
                      rfl
                     refine pure_ (i := 49) (N := some 141) (v := ?_) (a' := ?_) #[true, false, true, false, true, true, false, false, true, true, false, true, true, false, true, false, false, false, true, true, false, false, false, true, false, true, true, true, false, true, false, false, false, true, true, false, false, false, false, true, true, false, true, false, false, false, false, false, true, true, false, false, false, false, false, false, false, false, false, false, false, false, false, false, false, false, false, false, false, false, false, false, false, false] rfl rfl (any_of HT_.out (by kernel_rfl)) (fun _ _ _ h => h) (Or.inl ⟨by rfl, ?_⟩) ?_ ?_
                     rotate_left
                     ·intro w'
                      go_simp
                      with_reducible rfl
                     rotate_left
                     ·simp only [Act.put, List.setIfInBounds_toArray, List.set_cons_zero, List.set_cons_succ, i64_w, i32_w]
                      rfl
                     refine pure_ (i := 53) (N := some 145) (v := ?_) (a' := ?_) #[true, false, true, false, true, true, false, false, true, true, false, true, true, false, true, false, false, false, true, true, false, false, false, true, false, true, true, true, false, true, false, false, false, true, true, false, false, false, false, true, true, false, true, false, false, false, false, false, true, true, false, false, false, true, false, false, false, false, false, false, false, false, false, false, false, false, false, false, false, false, false, false, false, false] rfl rfl (any_of HT_.out (by kernel_rfl)) (fun _ _ _ h => h) (Or.inl ⟨by rfl, ?_⟩) ?_ ?_
                     rotate_left
                     ·intro w'
                      go_simp
                      with_reducible rfl
                     rotate_left
                     ·simp only [Act.put, List.setIfInBounds_toArray, List.set_cons_zero, List.set_cons_succ, i64_w, i32_w]
                      rfl
                     refine pure_ (i := 55) (N := some 147) (v := ?_) (a' := ?_) #[true, false, true, false, true, true, false, false, true, true, false, true, true, false, true, false, false, false, true, true, false, false, false, true, false, true, true, true, false, true, false, false, false, true, true, false, false, false, false, true, true, false, true, false, false, false, false, false, true, true, false, false, false, true, false, true, false, false, false, false, false, false, false, false, false, false, false, false, false, false, false, false, false, false] rfl rfl (any_of HT_.out (by kernel_rfl)) (fun _ _ _ h => h) (Or.inl ⟨by rfl, ?_⟩) ?_ ?_
                     rotate_left
                     ·intro w'
                      go_simp
                      with_reducible rfl
                     rotate_left
                     ·simp only [Act.put, List.setIfInBounds_toArray, List.set_cons_zero, List.set_cons_succ, i64_w, i32_w]
                      rfl
                     refine pure_ (i := 56) (N := some 148) (v := ?_) (a' := ?_) #[true, false, true, false, true, true, false, false, true, true, false, true, true, false, true, false, false, false, true, true, false, false, false, true, false, true, true, true, false, true, false, false, false, true, true, false, false, false, false, true, true, false, true, false, false, false, false, false, true, true, false, false, false, true, false, true, true, false, false, false, false, false, false, false, false, false, false, false, false, false, false, false, false, false] rfl rfl (any_of HT_.out (by kernel_rfl)) (fun _ _ _ h => h) (Or.inl ⟨by rfl, ?_⟩) ?_ ?_
                     rotate_left
                     ·intro w'
                      go_simp
                      with_reducible rfl
                     rotate_left
                     ·simp only [Act.put, List.setIfInBounds_toArray, List.set_cons_zero, List.set_cons_succ, i64_w, i32_w]
                      rfl
                     refine pure_ (i := 57) (N := some 149) (v := ?_) (a' := ?_) #[true, false, true, false, true, true, false, false, true, true, false, true, true, false, true, false, false, false, true, true, false, false, false, true, false, true, true, true, false, true, false, false, false, true, true, false, false, false, false, true, true, false, true, false, false, false, false, false, true, true, false, false, false, true, false, true, true, true, false, false, false, false, false, false, false, false, false, false, false, false, false, false, false, false] rfl rfl (any_of HT_.out (by kernel_rfl)) (fun _ _ _ h => h) (Or.inl ⟨by rfl, ?_⟩) ?_ ?_
                     rotate_left
                     ·intro w'
                      go_simp
                      with_reducible rfl
                     rotate_left
                     ·simp only [Act.put, List.setIfInBounds_toArray, List.set_cons_zero, List.set_cons_succ, i64_w, i32_w]
                      rfl
                     refine pure_ (i := 59) (N := some 151) (v := ?_) (a' := ?_) #[true, false, true, false, true, true, false, false, true, true, false, true, true, false, true, false, false, false, true, true, false, false, false, true, false, true, true, true, false, true, false, false, false, true, true, false, false, false, false, true, true, false, true, false, false, false, false, false, true, true, false, false, false, true, false, true, true, true, false, true, false, false, false, false, false, false, false, false, false, false, false, false, false, false] rfl rfl (any_of HT_.out (by kernel_rfl)) (fun _ _ _ h => h) (Or.inl ⟨by rfl, ?_⟩) ?_ ?_
                     rotate_left
                     ·intro w'
                      go_simp
                      with_reducible rfl
                     rotate_left
                     ·simp only [Act.put, List.setIfInBounds_toArray, List.set_cons_zero, List.set_cons_succ, i64_w, i32_w]
                      rfl
                     refine pure_ (i := 65) (N := some 157) (v := ?_) (a' := ?_) #[true, false, true, false, true, true, false, false, true, true, false, true, true, false, true, false, false, false, true, true, false, false, false, true, false, true, true, true, false, true, false, false, false, true, true, false, false, false, false, true, true, false, true, false, false, false, false, false, true, true, false, false, false, true, false, true, true, true, false, true, false, false, false, false, false, true, false, false, false, false, false, false, false, false] rfl rfl (any_of HT_.out (by kernel_rfl)) (fun _ _ _ h => h) (Or.inl ⟨by rfl, ?_⟩) ?_ ?_
                     rotate_left
                     ·intro w'
                      go_simp
                      with_reducible rfl
                     rotate_left
                     ·simp only [Act.put, List.setIfInBounds_toArray, List.set_cons_zero, List.set_cons_succ, i64_w, i32_w]
                      rfl
                     refine pure_ (i := 66) (N := some 158) (v := ?_) (a' := ?_) #[true, false, true, false, true, true, false, false, true, true, false, true, true, false, true, false, false, false, true, true, false, false, false, true, false, true, true, true, false, true, false, false, false, true, true, false, false, false, false, true, true, false, true, false, false, false, false, false, true, true, false, false, false, true, false, true, true, true, false, true, false, false, false, false, false, true, true, false, false, false, false, false, false, false] rfl rfl (any_of HT_.out (by kernel_rfl)) (fun _ _ _ h => h) (Or.inl ⟨by rfl, ?_⟩) ?_ ?_
                     rotate_left
                     ·intro w'
                      go_simp
                      with_reducible rfl
                     rotate_left
                     ·simp only [Act.put, List.setIfInBounds_toArray, List.set_cons_zero, List.set_cons_succ, i64_w, i32_w]
                      rfl
                     refine pure_ (i := 73) (N := some 165) (v := ?_) (a' := ?_) #[true, false, true, false, true, true, false, false, true, true, false, true, true, false, true, false, false, false, true, true, false, false, false, true, false, true, true, true, false, true, false, false, false, true, true, false, false, false, false, true, true, false, true, false, false, false, false, false, true, true, false, false, false, true, false, true, true, true, false, true, false, false, false, false, false, true, true, false, false, false, false, false, false, true] rfl rfl (any_of HT_.out (by kernel_rfl)) (fun _ _ _ h => h) (Or.inl ⟨by rfl, ?_⟩) ?_ ?_
                     rotate_left
                     ·intro w'
                      go_simp
                      with_reducible rfl
                     rotate_left
                     ·simp only [Act.put, List.setIfInBounds_toArray, List.set_cons_zero, List.set_cons_succ, i64_w, i32_w]
                      rfl
                     refine inv_at [1, 3, 6, 7, 10, 13, 15, 16, 17, 20, 21, 22, 24, 28, 30, 31, 32, 35, 36, 37, 38, 41, 43, 44, 45, 46, 47, 50, 51, 52, 54, 58, 60, 61, 62, 63, 64, 67, 68, 69, 70, 71, 72] (fun a0_ b a w' => ∃ (v233 : Value) (v236 : Value) (v239 : Value) (v242 : Value) (v245 : Value), a = putSel a0_ b [(1, 93, .string (strOfNums l0)), (3, 95, .agg #[.string (strOfNums l0), .string t230]), (6, 98, .string (strOfNums l0)), (7, 99, .agg #[.string t229, .string (strOfNums l0)]), (10, 102, .agg #[.string t229, .string t230]), (13, 105, .string (t229.extract 0 ((ji22) : Int).toNat)), (15, 107, v233), (16, 108, .string (strOfNums y232)), (17, 109, .string ((t229.extract 0 ((ji22) : Int).toNat) ++ (strOfNums y232))), (20, 112, .int .i64 ji26), (21, 113, .string (t229.extract ((ji26) : Int).toNat t229.size)), (22, 114, .string (((t229.extract 0 ((ji22) : Int).toNat) ++ (strOfNums y232)) ++ (t229.extract ((ji26) : Int).toNat t229.size))), (24, 116, .agg #[.string (((t229.extract 0 ((ji22) : Int).toNat) ++ (strOfNums y232)) ++ (t229.extract ((ji26) : Int).toNat t229.size)), .string t230]), (28, 120, .string (t230.extract 0 ((ji30) : Int).toNat)), (30, 122, v236), (31, 123, .string (strOfNums y235)), (32, 124, .string ((t230.extract 0 ((ji30) : Int).toNat) ++ (strOfNums y235))), (35, 127, .int .i64 ji34), (36, 128, .string (t230.extract ((ji34) : Int).toNat t230.size)), (37, 129, .string (((t230.extract 0 ((ji30) : Int).toNat) ++ (strOfNums y235)) ++ (t230.extract ((ji34) : Int).toNat t230.size))), (38, 130, .agg #[.string t229, .string (((t230.extract 0 ((ji30) : Int).toNat) ++ (strOfNums y235)) ++ (t230.extract ((ji34) : Int).toNat t230.size))]), (41, 133, .string (t229.extract 0 ((ji22) : Int).toNat)), (43, 135, .int .u8 (Int.tmod a3 10)), (44, 136, .int .u8 ((48 + (Int.tmod a3 10)) % 256)), (45, 137, v239), (46, 138, .string (strOfNums y238)), (47, 139, .string ((t229.extract 0 ((ji22) : Int).toNat) ++ (strOfNums y238))), (50, 142, .int .i64 ji26), (51, 143, .string (t229.extract ((ji26) : Int).toNat t229.size)), (52, 144, .string (((t229.extract 0 ((ji22) : Int).toNat) ++ (strOfNums y238)) ++ (t229.extract ((ji26) : Int).toNat t229.size))), (54, 146, .agg #[.string (((t229.extract 0 ((ji22) : Int).toNat) ++ (strOfNums y238)) ++ (t229.extract ((ji26) : Int).toNat t229.size)), .string t230]), (58, 150, .string (t230.extract 0 ((ji30) : Int).toNat)), (60, 152, .int .u8 (Int.tmod a3 10)), (61, 153, .int .u8 ((48 + (Int.tmod a3 10)) % 256)), (62, 154, v242), (63, 155, .string (strOfNums y241)), (64, 156, .string ((t230.extract 0 ((ji30) : Int).toNat) ++ (strOfNums y241))), (67, 159, .int .i64 ji34), (68, 160, .string (t230.extract ((ji34) : Int).toNat t230.size)), (69, 161, .string (((t230.extract 0 ((ji30) : Int).toNat) ++ (strOfNums y241)) ++ (t230.extract ((ji34) : Int).toNat t230.size))), (70, 162, .agg #[.string t229, .string (((t230.extract 0 ((ji30) : Int).toNat) ++ (strOfNums y241)) ++ (t230.extract ((ji34) : Int).toNat t230.size))]), (71, 163, v245), (72, 164, .int .i64 (y244.length : Int))] ∧ (Below w.heap.size w w') ∧ (b 15 = true → Kd.R (Kd.int .u8) 5 w' w.heap.size (fun _ => True) v233 y232) ∧ (b 30 = true → Kd.R (Kd.int .u8) 5 w' w.heap.size (fun _ => True) v236 y235) ∧ (b 45 = true → Kd.R (Kd.int .u8) 5 w' w.heap.size (fun _ => True) v239 y238) ∧ (b 62 = true → Kd.R (Kd.int .u8) 5 w' w.heap.size (fun _ => True) v242 y241) ∧ (b 71 = true → Kd.R k37 37 w' w.heap.size (fun _ => True) v245 y244)) HT_.out HW_.out (by kernel_rfl) (by kernel_rfl) ?_ ?_ ?_
                     ·exact ⟨.bool false, .bool false, .bool false, .bool false, .bool false, by simp only [putSel, Bool.false_eq_true, if_false], HB.out, fun h_ => absurd h_ (by decide), fun h_ => absurd h_ (by decide), fun h_ => absurd h_ (by decide), fun h_ => absurd h_ (by decide), fun h_ => absurd h_ (by decide)⟩
                     ·skip
                      clear HB
                      refine steps_cons ?_ ?_
                      ·rintro b a w' ⟨v233, v236, v239, v242, v245, ha, Q_HB, Q_HO234, Q_HO237, Q_HO240, Q_HO243, Q_HO246⟩ hb_ hon hoff
                       refine ⟨_, rfl, fun K hK => ?_⟩
                       have e92 : a.tmps[92]? = some (.slice A0 l0.length c0) := by rw [ha]; exact (putSel_off rfl).trans rfl
                       replace ha := Aside0.mk ha
                       have HB := Aside0.mk Q_HB
                       have hcr_ : (Go.convert 35 9 (.slice A0 l0.length c0)).run Tryd.prog w' = .ok (.string (strOfNums l0)) w' := (Kd.C_string (P := Tryd.prog) (A := A0) (c := c0) Tryd.underlying35 Tryd.underlying5 Tryd.underlying9 (Kd.C_below HR0.out HB.out))
                       refine value_ (w1 := w') (v := .string (strOfNums l0)) (by rfl) rfl ?_ ?_
                       ·go_simp
                        (try simp only [i64_w])
                        try rfl
                       refine hK.out _ _ ⟨v233, v236, v239, v242, v245, (by rw [ha.out]; exact putSel_upk 0 hb_ rfl rfl rfl), Q_HB, Q_HO234, Q_HO237, Q_HO240, Q_HO243, fun h0_ => absurd ((hoff 71 (by kernel_rfl)).symm.trans h0_) (by decide)⟩
                      refine steps_cons ?_ ?_
                      ·rintro b a w' ⟨v233, v236, v239, v242, v245, ha, Q_HB, Q_HO234, Q_HO237, Q_HO240, Q_HO243, Q_HO246⟩ hb_ hon hoff
                       refine ⟨_, rfl, fun K hK => ?_⟩
                       have e93 : a.tmps[93]? = some (.string (strOfNums l0)) := by rw [ha]; exact putSel_on (e := (1, 93, .string (strOfNums l0))) 0 rfl rfl (hon 1 (by kernel_rfl)) rfl
                       have e94 : a.tmps[94]? = some (.string t230) := by rw [ha]; exact (putSel_off rfl).trans rfl
                       replace ha := Aside0.mk ha
                       have HB := Aside0.mk Q_HB
                       refine value_ (w1 := w') (v := .agg #[.string (strOfNums l0), .string t230]) (by rfl) rfl ?_ ?_
                       ·go_simp
                        (try simp only [i64_w])
                        try rfl
                       refine hK.out _ _ ⟨v233, v236, v239, v242, v245, (by rw [ha.out]; exact putSel_upk 1 hb_ rfl rfl rfl), Q_HB, Q_HO234, Q_HO237, Q_HO240, Q_HO243, fun h0_ => absurd ((hoff 71 (by kernel_rfl)).symm.trans h0_) (by decide)⟩
                      refine steps_cons ?_ ?_
                      ·rintro b a w' ⟨v233, v236, v239, v242, v245, ha, Q_HB, Q_HO234, Q_HO237, Q_HO240, Q_HO243, Q_HO246⟩ hb_ hon hoff
                       refine ⟨_, rfl, fun K hK => ?_⟩
                       have e97 : a.tmps[97]? = some (.slice A0 l0.length c0) := by rw [ha]; exact (putSel_off rfl).trans rfl
                       replace ha := Aside0.mk ha
                       have HB := Aside0.mk Q_HB
                       have hcr_ : (Go.convert 35 9 (.slice A0 l0.length c0)).run Tryd.prog w' = .ok (.string (strOfNums l0)) w' := (Kd.C_string (P := Tryd.prog) (A := A0) (c := c0) Tryd.underlying35 Tryd.underlying5 Tryd.underlying9 (Kd.C_below HR0.out HB.out))
                       refine value_ (w1 := w') (v := .string (strOfNums l0)) (by rfl) rfl ?_ ?_
                       ·go_simp
                        (try simp only [i64_w])
                        try rfl
                       refine hK.out _ _ ⟨v233, v236, v239, v242, v245, (by rw [ha.out]; exact putSel_upk 2 hb_ rfl rfl rfl), Q_HB, Q_HO234, Q_HO237, Q_HO240, Q_HO243, fun h0_ => absurd ((hoff 71 (by kernel_rfl)).symm.trans h0_) (by decide)⟩
                      refine steps_cons ?_ ?_
                      ·rintro b a w' ⟨v233, v236, v239, v242, v245, ha, Q_HB, Q_HO234, Q_HO237, Q_HO240, Q_HO243, Q_HO246⟩ hb_ hon hoff
                       refine ⟨_, rfl, fun K hK => ?_⟩
                       have e96 : a.tmps[96]? = some (.string t229) := by rw [ha]; exact (putSel_off rfl).trans rfl
                       have e98 : a.tmps[98]? = some (.string (strOfNums l0)) := by rw [ha]; exact putSel_on (e := (6, 98, .string (strOfNums l0))) 2 rfl rfl (hon 6 (by kernel_rfl)) rfl
                       replace ha := Aside0.mk ha
                       have HB := Aside0.mk Q_HB
                       refine value_ (w1 := w') (v := .agg #[.string t229, .string (strOfNums l0)]) (by rfl) rfl ?_ ?_
                       ·go_simp
                        (try simp only [i64_w])
                        try rfl
                       refine hK.out _ _ ⟨v233, v236, v239, v242, v245, (by rw [ha.out]; exact putSel_upk 3 hb_ rfl rfl rfl), Q_HB, Q_HO234, Q_HO237, Q_HO240, Q_HO243, fun h0_ => absurd ((hoff 71 (by kernel_rfl)).symm.trans h0_) (by decide)⟩
                      refine steps_cons ?_ ?_
                      ·rintro b a w' ⟨v233, v236, v239, v242, v245, ha, Q_HB, Q_HO234, Q_HO237, Q_HO240, Q_HO243, Q_HO246⟩ hb_ hon hoff
                       refine ⟨_, rfl, fun K hK => ?_⟩
                       have e100 : a.tmps[100]? = some (.string t229) := by rw [ha]; exact (putSel_off rfl).trans rfl
                       have e101 : a.tmps[101]? = some (.string t230) := by rw [ha]; exact (putSel_off rfl).trans rfl
                       replace ha := Aside0.mk ha
                       have HB := Aside0.mk Q_HB
                       refine value_ (w1 := w') (v := .agg #[.string t229, .string t230]) (by rfl) rfl ?_ ?_
                       ·go_simp
                        (try simp only [i64_w])
                        try rfl
                       refine hK.out _ _ ⟨v233, v236, v239, v242, v245, (by rw [ha.out]; exact putSel_upk 4 hb_ rfl rfl rfl), Q_HB, Q_HO234, Q_HO237, Q_HO240, Q_HO243, fun h0_ => absurd ((hoff 71 (by kernel_rfl)).symm.trans h0_) (by decide)⟩
                      refine steps_cons ?_ ?_
                      ·rintro b a w' ⟨v233, v236, v239, v242, v245, ha, Q_HB, Q_HO234, Q_HO237, Q_HO240, Q_HO243, Q_HO246⟩ hb_ hon hoff
                       refine ⟨_, rfl, fun K hK => ?_⟩
                       have e103 : a.tmps[103]? = some (.string t229) := by rw [ha]; exact (putSel_off rfl).trans rfl
                       have e104 : a.tmps[104]? = some (.int .i64 ji22) := by rw [ha]; exact (putSel_off rfl).trans rfl
                       replace ha := Aside0.mk ha
                       have HB := Aside0.mk Q_HB
                       refine value_ (w1 := w') (v := .string (t229.extract 0 ((ji22) : Int).toNat)) (by rfl) rfl ?_ ?_
                       ·go_simp
                        (try simp only [i64_w])
                        try rfl
                       refine hK.out _ _ ⟨v233, v236, v239, v242, v245, (by rw [ha.out]; exact putSel_upk 5 hb_ rfl rfl rfl), Q_HB, Q_HO234, Q_HO237, Q_HO240, Q_HO243, fun h0_ => absurd ((hoff 71 (by kernel_rfl)).symm.trans h0_) (by decide)⟩
                      refine steps_cons ?_ ?_
                      ·rintro b a w' ⟨v233, v236, v239, v242, v245, ha, Q_HB, Q_HO234, Q_HO237, Q_HO240, Q_HO243, Q_HO246⟩ hb_ hon hoff
                       refine ⟨_, rfl, fun K hK => ?_⟩
                       have e106 : a.tmps[106]? = some (.int .u8 a3) := by rw [ha]; exact (putSel_off rfl).trans rfl
                       replace ha := Aside0.mk ha
                       have HB := Aside0.mk Q_HB
                       refine Kd.R_lit_step (Kd.int .u8) _ 5 ?hg (N := 107) ?hd (xs := ([a3] : List Int)) (inner := [.int .u8 a3]) (ok := fun _ => True) (okp := fun _ => True) ?hr ?hp (fun _ hk => hk) trivial (Below.refl _ _) (Nat.le_refl _) (by simp) ?_; (case hd => rfl); (case hg => rfl); (case hr => first | (go_simp; done) | (go_simp; rfl)); (case hp => exact (Reps.one (show Kd.M (Kd.int .u8) _ _ _ a3 [.int .u8 a3] from rfl) (Reps.none _ _)))
                       intro v233 w52 ho53 hb hg_ hnew_
                       clear hg_ hnew_
                       (first | rw [← Ny232.out] at ho53 | (simp only [Int.reduceToNat] at ho53; rw [← Ny232.out] at ho53))
                       have n0_ := Aside0.mk (Kd.R_lower ho53 (below_size (by repeat (first | (with_reducible first | exact HB.out | apply below_alloc | apply pw_below_drewN | apply below_drew1) | exact HB.out))))
                       have n1_ := Aside0.mk (below_step (by repeat (first | (with_reducible first | exact HB.out | apply below_alloc | apply pw_below_drewN | apply below_drew1) | exact HB.out)) hb)
                       have z_HO237 := fun (h0_ : b 30 = true) => (show Kd.R (Kd.int .u8) 5 w52 w.heap.size (fun _ => True) v236 y235 from by first | exact (Kd.R_elder' (by (with_reducible repeat (first | apply Kd.R_alloc | apply Kd.R_drewN | apply Kd.R_drew)); exact (Q_HO237 h0_)) (Kd.R_base ho53) hb) | exact Kd.R_mono (Kd.R_elder' (by (with_reducible repeat (first | apply Kd.R_alloc | apply Kd.R_drewN | apply Kd.R_drew)); exact (Q_HO237 h0_)) (Kd.R_base ho53) hb) (fun _ h_ => by first | trivial | exact h_ | exact h_.1))
                       have z_HO240 := fun (h0_ : b 45 = true) => (show Kd.R (Kd.int .u8) 5 w52 w.heap.size (fun _ => True) v239 y238 from by first | exact (Kd.R_elder' (by (with_reducible repeat (first | apply Kd.R_alloc | apply Kd.R_drewN | apply Kd.R_drew)); exact (Q_HO240 h0_)) (Kd.R_base ho53) hb) | exact Kd.R_mono (Kd.R_elder' (by (with_reducible repeat (first | apply Kd.R_alloc | apply Kd.R_drewN | apply Kd.R_drew)); exact (Q_HO240 h0_)) (Kd.R_base ho53) hb) (fun _ h_ => by first | trivial | exact h_ | exact h_.1))
                       have z_HO243 := fun (h0_ : b 62 = true) => (show Kd.R (Kd.int .u8) 5 w52 w.heap.size (fun _ => True) v242 y241 from by first | exact (Kd.R_elder' (by (with_reducible repeat (first | apply Kd.R_alloc | apply Kd.R_drewN | apply Kd.R_drew)); exact (Q_HO243 h0_)) (Kd.R_base ho53) hb) | exact Kd.R_mono (Kd.R_elder' (by (with_reducible repeat (first | apply Kd.R_alloc | apply Kd.R_drewN | apply Kd.R_drew)); exact (Q_HO243 h0_)) (Kd.R_base ho53) hb) (fun _ h_ => by first | trivial | exact h_ | exact h_.1))
                       clear HB
                       have HO234 := n0_
                       have HB := n1_
                       clear n0_ n1_
                       clear hb ho53
                       refine hK.out _ _ ⟨v233, v236, v239, v242, v245, (by rw [ha.out]; exact putSel_upk 6 hb_ rfl rfl rfl), (by repeat (first | (with_reducible first | exact HB.out | apply below_alloc | apply pw_below_drewN | apply below_drew1) | exact HB.out)), fun _ => (by (with_reducible repeat (first | apply Kd.R_alloc | apply Kd.R_drewN | apply Kd.R_drew)); exact HO234.out), z_HO237, z_HO240, z_HO243, fun h0_ => absurd ((hoff 71 (by kernel_rfl)).symm.trans h0_) (by decide)⟩
                      refine steps_cons ?_ ?_
                      ·rintro b a w' ⟨v233, v236, v239, v242, v245, ha, Q_HB, Q_HO234, Q_HO237, Q_HO240, Q_HO243, Q_HO246⟩ hb_ hon hoff
                       refine ⟨_, rfl, fun K hK => ?_⟩
                       have e107 : a.tmps[107]? = some (v233) := by rw [ha]; exact putSel_on (e := (15, 107, v233)) 6 rfl rfl (hon 15 (by kernel_rfl)) rfl
                       replace ha := Aside0.mk ha
                       have HB := Aside0.mk Q_HB
                       have HO234 := Aside0.mk (Q_HO234 (hon 15 (by kernel_rfl)))
                       obtain ⟨Ao16_0, co16_0, eo_⟩ := Kd.R_slice HO234.out
                       subst eo_
                       have hcv_ := own_string (P := Tryd.prog) Tryd.underlying35 Tryd.underlying5 Tryd.underlying9 (Kd.own_of_R HO234.out)
                       refine value_ (w1 := w') (v := .string (strOfNums y232)) (by rfl) rfl ?_ ?_
                       ·go_simp
                        (try simp only [i64_w])
                        try rfl
                       refine hK.out _ _ ⟨.slice Ao16_0 y232.length co16_0, v236, v239, v242, v245, (by rw [ha.out]; exact putSel_upk 7 hb_ rfl rfl rfl), Q_HB, Q_HO234, Q_HO237, Q_HO240, Q_HO243, fun h0_ => absurd ((hoff 71 (by kernel_rfl)).symm.trans h0_) (by decide)⟩
                      refine steps_cons ?_ ?_
                      ·rintro b a w' ⟨v233, v236, v239, v242, v245, ha, Q_HB, Q_HO234, Q_HO237, Q_HO240, Q_HO243, Q_HO246⟩ hb_ hon hoff
                       refine ⟨_, rfl, fun K hK => ?_⟩
                       have e105 : a.tmps[105]? = some (.string (t229.extract 0 ((ji22) : Int).toNat)) := by rw [ha]; exact putSel_on (e := (13, 105, .string (t229.extract 0 ((ji22) : Int).toNat))) 5 rfl rfl (hon 13 (by kernel_rfl)) rfl
                       have e108 : a.tmps[108]? = some (.string (strOfNums y232)) := by rw [ha]; exact putSel_on (e := (16, 108, .string (strOfNums y232))) 7 rfl rfl (hon 16 (by kernel_rfl)) rfl
                       replace ha := Aside0.mk ha
                       have HB := Aside0.mk Q_HB
                       have HO234 := Aside0.mk (Q_HO234 (hon 15 (by kernel_rfl)))
                       refine value_ (w1 := w') (v := .string ((t229.extract 0 ((ji22) : Int).toNat) ++ (strOfNums y232))) (by rfl) rfl ?_ ?_
                       ·go_simp
                        (try simp only [i64_w])
                        try rfl
                       refine hK.out _ _ ⟨v233, v236, v239, v242, v245, (by rw [ha.out]; exact putSel_upk 8 hb_ rfl rfl rfl), Q_HB, Q_HO234, Q_HO237, Q_HO240, Q_HO243, fun h0_ => absurd ((hoff 71 (by kernel_rfl)).symm.trans h0_) (by decide)⟩
                      refine steps_cons ?_ ?_
                      ·rintro b a w' ⟨v233, v236, v239, v242, v245, ha, Q_HB, Q_HO234, Q_HO237, Q_HO240, Q_HO243, Q_HO246⟩ hb_ hon hoff
                       refine ⟨_, rfl, fun K hK => ?_⟩
                       have e111 : a.tmps[111]? = some (.int .i64 ji22) := by rw [ha]; exact (putSel_off rfl).trans rfl
                       replace ha := Aside0.mk ha
                       have HB := Aside0.mk Q_HB
                       refine value_ (w1 := w') (v := .int .i64 ji26) (by rfl) rfl ?_ ?_
                       ·go_simp
                        (try simp only [i64_w])
                        try rfl
                       refine hK.out _ _ ⟨v233, v236, v239, v242, v245, (by rw [ha.out]; exact putSel_upk 9 hb_ rfl rfl rfl), Q_HB, Q_HO234, Q_HO237, Q_HO240, Q_HO243, fun h0_ => absurd ((hoff 71 (by kernel_rfl)).symm.trans h0_) (by decide)⟩
                      refine steps_cons ?_ ?_
                      ·rintro b a w' ⟨v233, v236, v239, v242, v245, ha, Q_HB, Q_HO234, Q_HO237, Q_HO240, Q_HO243, Q_HO246⟩ hb_ hon hoff
                       refine ⟨_, rfl, fun K hK => ?_⟩
                       have e110 : a.tmps[110]? = some (.string t229) := by rw [ha]; exact (putSel_off rfl).trans rfl
                       have e112 : a.tmps[112]? = some (.int .i64 ji26) := by rw [ha]; exact putSel_on (e := (20, 112, .int .i64 ji26)) 9 rfl rfl (hon 20 (by kernel_rfl)) rfl
                       replace ha := Aside0.mk ha
                       have HB := Aside0.mk Q_HB
                       refine value_ (w1 := w') (v := .string (t229.extract ((ji26) : Int).toNat t229.size)) (by rfl) rfl ?_ ?_
                       ·go_simp
                        (try simp only [i64_w])
                        try rfl
                       refine hK.out _ _ ⟨v233, v236, v239, v242, v245, (by rw [ha.out]; exact putSel_upk 10 hb_ rfl rfl rfl), Q_HB, Q_HO234, Q_HO237, Q_HO240, Q_HO243, fun h0_ => absurd ((hoff 71 (by kernel_rfl)).symm.trans h0_) (by decide)⟩
                      refine steps_cons ?_ ?_
                      ·rintro b a w' ⟨v233, v236, v239, v242, v245, ha, Q_HB, Q_HO234, Q_HO237, Q_HO240, Q_HO243, Q_HO246⟩ hb_ hon hoff
                       refine ⟨_, rfl, fun K hK => ?_⟩
                       have e109 : a.tmps[109]? = some (.string ((t229.extract 0 ((ji22) : Int).toNat) ++ (strOfNums y232))) := by rw [ha]; exact putSel_on (e := (17, 109, .string ((t229.extract 0 ((ji22) : Int).toNat) ++ (strOfNums y232)))) 8 rfl rfl (hon 17 (by kernel_rfl)) rfl
                       have e113 : a.tmps[113]? = some (.string (t229.extract ((ji26) : Int).toNat t229.size)) := by rw [ha]; exact putSel_on (e := (21, 113, .string (t229.extract ((ji26) : Int).toNat t229.size))) 10 rfl rfl (hon 21 (by kernel_rfl)) rfl
                       replace ha := Aside0.mk ha
                       have HB := Aside0.mk Q_HB
                       have HO234 := Aside0.mk (Q_HO234 (hon 15 (by kernel_rfl)))
                       refine value_ (w1 := w') (v := .string (((t229.extract 0 ((ji22) : Int).toNat) ++ (strOfNums y232)) ++ (t229.extract ((ji26) : Int).toNat t229.size))) (by rfl) rfl ?_ ?_
                       ·go_simp
                        (try simp only [i64_w])
                        try rfl
                       refine hK.out _ _ ⟨v233, v236, v239, v242, v245, (by rw [ha.out]; exact putSel_upk 11 hb_ rfl rfl rfl), Q_HB, Q_HO234, Q_HO237, Q_HO240, Q_HO243, fun h0_ => absurd ((hoff 71 (by kernel_rfl)).symm.trans h0_) (by decide)⟩
                      refine steps_cons ?_ ?_
                      ·rintro b a w' ⟨v233, v236, v239, v242, v245, ha, Q_HB, Q_HO234, Q_HO237, Q_HO240, Q_HO243, Q_HO246⟩ hb_ hon hoff
                       refine ⟨_, rfl, fun K hK => ?_⟩
                       have e114 : a.tmps[114]? = some (.string (((t229.extract 0 ((ji22) : Int).toNat) ++ (strOfNums y232)) ++ (t229.extract ((ji26) : Int).toNat t229.size))) := by rw [ha]; exact putSel_on (e := (22, 114, .string (((t229.extract 0 ((ji22) : Int).toNat) ++ (strOfNums y232)) ++ (t229.extract ((ji26) : Int).toNat t229.size)))) 11 rfl rfl (hon 22 (by kernel_rfl)) rfl
                       have e115 : a.tmps[115]? = some (.string t230) := by rw [ha]; exact (putSel_off rfl).trans rfl
                       replace ha := Aside0.mk ha
                       have HB := Aside0.mk Q_HB
                       have HO234 := Aside0.mk (Q_HO234 (hon 15 (by kernel_rfl)))
                       refine value_ (w1 := w') (v := .agg #[.string (((t229.extract 0 ((ji22) : Int).toNat) ++ (strOfNums y232)) ++ (t229.extract ((ji26) : Int).toNat t229.size)), .string t230]) (by rfl) rfl ?_ ?_
                       ·go_simp
                        (try simp only [i64_w])
                        try rfl
                       refine hK.out _ _ ⟨v233, v236, v239, v242, v245, (by rw [ha.out]; exact putSel_upk 12 hb_ rfl rfl rfl), Q_HB, Q_HO234, Q_HO237, Q_HO240, Q_HO243, fun h0_ => absurd ((hoff 71 (by kernel_rfl)).symm.trans h0_) (by decide)⟩
                      refine steps_cons ?_ ?_
                      ·rintro b a w' ⟨v233, v236, v239, v242, v245, ha, Q_HB, Q_HO234, Q_HO237, Q_HO240, Q_HO243, Q_HO246⟩ hb_ hon hoff
                       refine ⟨_, rfl, fun K hK => ?_⟩
                       have e118 : a.tmps[118]? = some (.string t230) := by rw [ha]; exact (putSel_off rfl).trans rfl
                       have e119 : a.tmps[119]? = some (.int .i64 ji30) := by rw [ha]; exact (putSel_off rfl).trans rfl
                       replace ha := Aside0.mk ha
                       have HB := Aside0.mk Q_HB
                       refine value_ (w1 := w') (v := .string (t230.extract 0 ((ji30) : Int).toNat)) (by rfl) rfl ?_ ?_
                       ·go_simp
                        (try simp only [i64_w])
                        try rfl
                       refine hK.out _ _ ⟨v233, v236, v239, v242, v245, (by rw [ha.out]; exact putSel_upk 13 hb_ rfl rfl rfl), Q_HB, Q_HO234, Q_HO237, Q_HO240, Q_HO243, fun h0_ => absurd ((hoff 71 (by kernel_rfl)).symm.trans h0_) (by decide)⟩
                      refine steps_cons ?_ ?_
                      ·rintro b a w' ⟨v233, v236, v239, v242, v245, ha, Q_HB, Q_HO234, Q_HO237, Q_HO240, Q_HO243, Q_HO246⟩ hb_ hon hoff
                       refine ⟨_, rfl, fun K hK => ?_⟩
                       have e121 : a.tmps[121]? = some (.int .u8 a3) := by rw [ha]; exact (putSel_off rfl).trans rfl
                       replace ha := Aside0.mk ha
                       have HB := Aside0.mk Q_HB
                       refine Kd.R_lit_step (Kd.int .u8) _ 5 ?hg (N := 122) ?hd (xs := ([a3] : List Int)) (inner := [.int .u8 a3]) (ok := fun _ => True) (okp := fun _ => True) ?hr ?hp (fun _ hk => hk) trivial (Below.refl _ _) (Nat.le_refl _) (by simp) ?_; (case hd => rfl); (case hg => rfl); (case hr => first | (go_simp; done) | (go_simp; rfl)); (case hp => exact (Reps.one (show Kd.M (Kd.int .u8) _ _ _ a3 [.int .u8 a3] from rfl) (Reps.none _ _)))
                       intro v236 w52 ho53 hb hg_ hnew_
                       clear hg_ hnew_
                       (first | rw [← Ny235.out] at ho53 | (simp only [Int.reduceToNat] at ho53; rw [← Ny235.out] at ho53))
                       have n0_ := Aside0.mk (Kd.R_lower ho53 (below_size (by repeat (first | (with_reducible first | exact HB.out | apply below_alloc | apply pw_below_drewN | apply below_drew1) | exact HB.out))))
                       have n1_ := Aside0.mk (below_step (by repeat (first | (with_reducible first | exact HB.out | apply below_alloc | apply pw_below_drewN | apply below_drew1) | exact HB.out)) hb)
                       have z_HO234 := fun (h0_ : b 15 = true) => (show Kd.R (Kd.int .u8) 5 w52 w.heap.size (fun _ => True) v233 y232 from by first | exact (Kd.R_elder' (by (with_reducible repeat (first | apply Kd.R_alloc | apply Kd.R_drewN | apply Kd.R_drew)); exact (Q_HO234 h0_)) (Kd.R_base ho53) hb) | exact Kd.R_mono (Kd.R_elder' (by (with_reducible repeat (first | apply Kd.R_alloc | apply Kd.R_drewN | apply Kd.R_drew)); exact (Q_HO234 h0_)) (Kd.R_base ho53) hb) (fun _ h_ => by first | trivial | exact h_ | exact h_.1))
                       have z_HO240 := fun (h0_ : b 45 = true) => (show Kd.R (Kd.int .u8) 5 w52 w.heap.size (fun _ => True) v239 y238 from by first | exact (Kd.R_elder' (by (with_reducible repeat (first | apply Kd.R_alloc | apply Kd.R_drewN | apply Kd.R_drew)); exact (Q_HO240 h0_)) (Kd.R_base ho53) hb) | exact Kd.R_mono (Kd.R_elder' (by (with_reducible repeat (first | apply Kd.R_alloc | apply Kd.R_drewN | apply Kd.R_drew)); exact (Q_HO240 h0_)) (Kd.R_base ho53) hb) (fun _ h_ => by first | trivial | exact h_ | exact h_.1))
                       have z_HO243 := fun (h0_ : b 62 = true) => (show Kd.R (Kd.int .u8) 5 w52 w.heap.size (fun _ => True) v242 y241 from by first | exact (Kd.R_elder' (by (with_reducible repeat (first | apply Kd.R_alloc | apply Kd.R_drewN | apply Kd.R_drew)); exact (Q_HO243 h0_)) (Kd.R_base ho53) hb) | exact Kd.R_mono (Kd.R_elder' (by (with_reducible repeat (first | apply Kd.R_alloc | apply Kd.R_drewN | apply Kd.R_drew)); exact (Q_HO243 h0_)) (Kd.R_base ho53) hb) (fun _ h_ => by first | trivial | exact h_ | exact h_.1))
                       clear HB
                       have HO237 := n0_
                       have HB := n1_
                       clear n0_ n1_
                       clear hb ho53
                       refine hK.out _ _ ⟨v233, v236, v239, v242, v245, (by rw [ha.out]; exact putSel_upk 14 hb_ rfl rfl rfl), (by repeat (first | (with_reducible first | exact HB.out | apply below_alloc | apply pw_below_drewN | apply below_drew1) | exact HB.out)), z_HO234, fun _ => (by (with_reducible repeat (first | apply Kd.R_alloc | apply Kd.R_drewN | apply Kd.R_drew)); exact HO237.out), z_HO240, z_HO243, fun h0_ => absurd ((hoff 71 (by kernel_rfl)).symm.trans h0_) (by decide)⟩
                      refine steps_cons ?_ ?_
                      ·rintro b a w' ⟨v233, v236, v239, v242, v245, ha, Q_HB, Q_HO234, Q_HO237, Q_HO240, Q_HO243, Q_HO246⟩ hb_ hon hoff
                       refine ⟨_, rfl, fun K hK => ?_⟩
                       have e122 : a.tmps[122]? = some (v236) := by rw [ha]; exact putSel_on (e := (30, 122, v236)) 14 rfl rfl (hon 30 (by kernel_rfl)) rfl
                       replace ha := Aside0.mk ha
                       have HB := Aside0.mk Q_HB
                       have HO237 := Aside0.mk (Q_HO237 (hon 30 (by kernel_rfl)))
                       obtain ⟨Ao31_0, co31_0, eo_⟩ := Kd.R_slice HO237.out
                       subst eo_
                       have hcv_ := own_string (P := Tryd.prog) Tryd.underlying35 Tryd.underlying5 Tryd.underlying9 (Kd.own_of_R HO237.out)
                       refine value_ (w1 := w') (v := .string (strOfNums y235)) (by rfl) rfl ?_ ?_
                       ·go_simp
                        (try simp only [i64_w])
                        try rfl
                       refine hK.out _ _ ⟨v233, .slice Ao31_0 y235.length co31_0, v239, v242, v245, (by rw [ha.out]; exact putSel_upk 15 hb_ rfl rfl rfl), Q_HB, Q_HO234, Q_HO237, Q_HO240, Q_HO243, fun h0_ => absurd ((hoff 71 (by kernel_rfl)).symm.trans h0_) (by decide)⟩
                      refine steps_cons ?_ ?_
                      ·rintro b a w' ⟨v233, v236, v239, v242, v245, ha, Q_HB, Q_HO234, Q_HO237, Q_HO240, Q_HO243, Q_HO246⟩ hb_ hon hoff
                       refine ⟨_, rfl, fun K hK => ?_⟩
                       have e120 : a.tmps[120]? = some (.string (t230.extract 0 ((ji30) : Int).toNat)) := by rw [ha]; exact putSel_on (e := (28, 120, .string (t230.extract 0 ((ji30) : Int).toNat))) 13 rfl rfl (hon 28 (by kernel_rfl)) rfl
                       have e123 : a.tmps[123]? = some (.string (strOfNums y235)) := by rw [ha]; exact putSel_on (e := (31, 123, .string (strOfNums y235))) 15 rfl rfl (hon 31 (by kernel_rfl)) rfl
                       replace ha := Aside0.mk ha
                       have HB := Aside0.mk Q_HB
                       have HO237 := Aside0.mk (Q_HO237 (hon 30 (by kernel_rfl)))
                       refine value_ (w1 := w') (v := .string ((t230.extract 0 ((ji30) : Int).toNat) ++ (strOfNums y235))) (by rfl) rfl ?_ ?_
                       ·go_simp
                        (try simp only [i64_w])
                        try rfl
                       refine hK.out _ _ ⟨v233, v236, v239, v242, v245, (by rw [ha.out]; exact putSel_upk 16 hb_ rfl rfl rfl), Q_HB, Q_HO234, Q_HO237, Q_HO240, Q_HO243, fun h0_ => absurd ((hoff 71 (by kernel_rfl)).symm.trans h0_) (by decide)⟩
                      refine steps_cons ?_ ?_
                      ·rintro b a w' ⟨v233, v236, v239, v242, v245, ha, Q_HB, Q_HO234, Q_HO237, Q_HO240, Q_HO243, Q_HO246⟩ hb_ hon hoff
                       refine ⟨_, rfl, fun K hK => ?_⟩
                       have e126 : a.tmps[126]? = some (.int .i64 ji30) := by rw [ha]; exact (putSel_off rfl).trans rfl
                       replace ha := Aside0.mk ha
                       have HB := Aside0.mk Q_HB
                       refine value_ (w1 := w') (v := .int .i64 ji34) (by rfl) rfl ?_ ?_
                       ·go_simp
                        (try simp only [i64_w])
                        try rfl
                       refine hK.out _ _ ⟨v233, v236, v239, v242, v245, (by rw [ha.out]; exact putSel_upk 17 hb_ rfl rfl rfl), Q_HB, Q_HO234, Q_HO237, Q_HO240, Q_HO243, fun h0_ => absurd ((hoff 71 (by kernel_rfl)).symm.trans h0_) (by decide)⟩
                      refine steps_cons ?_ ?_
                      ·rintro b a w' ⟨v233, v236, v239, v242, v245, ha, Q_HB, Q_HO234, Q_HO237, Q_HO240, Q_HO243, Q_HO246⟩ hb_ hon hoff
                       refine ⟨_, rfl, fun K hK => ?_⟩
                       have e125 : a.tmps[125]? = some (.string t230) := by rw [ha]; exact (putSel_off rfl).trans rfl
                       have e127 : a.tmps[127]? = some (.int .i64 ji34) := by rw [ha]; exact putSel_on (e := (35, 127, .int .i64 ji34)) 17 rfl rfl (hon 35 (by kernel_rfl)) rfl
                       replace ha := Aside0.mk ha
                       have HB := Aside0.mk Q_HB
                       refine value_ (w1 := w') (v := .string (t230.extract ((ji34) : Int).toNat t230.size)) (by rfl) rfl ?_ ?_
                       ·go_simp
                        (try simp only [i64_w])
                        try rfl
                       refine hK.out _ _ ⟨v233, v236, v239, v242, v245, (by rw [ha.out]; exact putSel_upk 18 hb_ rfl rfl rfl), Q_HB, Q_HO234, Q_HO237, Q_HO240, Q_HO243, fun h0_ => absurd ((hoff 71 (by kernel_rfl)).symm.trans h0_) (by decide)⟩
                      refine steps_cons ?_ ?_
                      ·rintro b a w' ⟨v233, v236, v239, v242, v245, ha, Q_HB, Q_HO234, Q_HO237, Q_HO240, Q_HO243, Q_HO246⟩ hb_ hon hoff
                       refine ⟨_, rfl, fun K hK => ?_⟩
                       have e124 : a.tmps[124]? = some (.string ((t230.extract 0 ((ji30) : Int).toNat) ++ (strOfNums y235))) := by rw [ha]; exact putSel_on (e := (32, 124, .string ((t230.extract 0 ((ji30) : Int).toNat) ++ (strOfNums y235)))) 16 rfl rfl (hon 32 (by kernel_rfl)) rfl
                       have e128 : a.tmps[128]? = some (.string (t230.extract ((ji34) : Int).toNat t230.size)) := by rw [ha]; exact putSel_on (e := (36, 128, .string (t230.extract ((ji34) : Int).toNat t230.size))) 18 rfl rfl (hon 36 (by kernel_rfl)) rfl
                       replace ha := Aside0.mk ha
                       have HB := Aside0.mk Q_HB
                       have HO237 := Aside0.mk (Q_HO237 (hon 30 (by kernel_rfl)))
                       refine value_ (w1 := w') (v := .string (((t230.extract 0 ((ji30) : Int).toNat) ++ (strOfNums y235)) ++ (t230.extract ((ji34) : Int).toNat t230.size))) (by rfl) rfl ?_ ?_
                       ·go_simp
                        (try simp only [i64_w])
                        try rfl
                       refine hK.out _ _ ⟨v233, v236, v239, v242, v245, (by rw [ha.out]; exact putSel_upk 19 hb_ rfl rfl rfl), Q_HB, Q_HO234, Q_HO237, Q_HO240, Q_HO243, fun h0_ => absurd ((hoff 71 (by kernel_rfl)).symm.trans h0_) (by decide)⟩
                      refine steps_cons ?_ ?_
                      ·rintro b a w' ⟨v233, v236, v239, v242, v245, ha, Q_HB, Q_HO234, Q_HO237, Q_HO240, Q_HO243, Q_HO246⟩ hb_ hon hoff
                       refine ⟨_, rfl, fun K hK => ?_⟩
                       have e117 : a.tmps[117]? = some (.string t229) := by rw [ha]; exact (putSel_off rfl).trans rfl
                       have e129 : a.tmps[129]? = some (.string (((t230.extract 0 ((ji30) : Int).toNat) ++ (strOfNums y235)) ++ (t230.extract ((ji34) : Int).toNat t230.size))) := by rw [ha]; exact putSel_on (e := (37, 129, .string (((t230.extract 0 ((ji30) : Int).toNat) ++ (strOfNums y235)) ++ (t230.extract ((ji34) : Int).toNat t230.size)))) 19 rfl rfl (hon 37 (by kernel_rfl)) rfl
                       replace ha := Aside0.mk ha
                       have HB := Aside0.mk Q_HB
                       have HO237 := Aside0.mk (Q_HO237 (hon 30 (by kernel_rfl)))
                       refine value_ (w1 := w') (v := .agg #[.string t229, .string (((t230.extract 0 ((ji30) : Int).toNat) ++ (strOfNums y235)) ++ (t230.extract ((ji34) : Int).toNat t230.size))]) (by rfl) rfl ?_ ?_
                       ·go_simp
                        (try simp only [i64_w])
                        try rfl
                       refine hK.out _ _ ⟨v233, v236, v239, v242, v245, (by rw [ha.out]; exact putSel_upk 20 hb_ rfl rfl rfl), Q_HB, Q_HO234, Q_HO237, Q_HO240, Q_HO243, fun h0_ => absurd ((hoff 71 (by kernel_rfl)).symm.trans h0_) (by decide)⟩
                      refine steps_cons ?_ ?_
                      ·rintro b a w' ⟨v233, v236, v239, v242, v245, ha, Q_HB, Q_HO234, Q_HO237, Q_HO240, Q_HO243, Q_HO246⟩ hb_ hon hoff
                       refine ⟨_, rfl, fun K hK => ?_⟩
                       have e131 : a.tmps[131]? = some (.string t229) := by rw [ha]; exact (putSel_off rfl).trans rfl
                       have e132 : a.tmps[132]? = some (.int .i64 ji22) := by rw [ha]; exact (putSel_off rfl).trans rfl
                       replace ha := Aside0.mk ha
                       have HB := Aside0.mk Q_HB
                       refine value_ (w1 := w') (v := .string (t229.extract 0 ((ji22) : Int).toNat)) (by rfl) rfl ?_ ?_
                       ·go_simp
                        (try simp only [i64_w])
                        try rfl
                       refine hK.out _ _ ⟨v233, v236, v239, v242, v245, (by rw [ha.out]; exact putSel_upk 21 hb_ rfl rfl rfl), Q_HB, Q_HO234, Q_HO237, Q_HO240, Q_HO243, fun h0_ => absurd ((hoff 71 (by kernel_rfl)).symm.trans h0_) (by decide)⟩
                      refine steps_cons ?_ ?_
                      ·rintro b a w' ⟨v233, v236, v239, v242, v245, ha, Q_HB, Q_HO234, Q_HO237, Q_HO240, Q_HO243, Q_HO246⟩ hb_ hon hoff
                       refine ⟨_, rfl, fun K hK => ?_⟩
                       have e134 : a.tmps[134]? = some (.int .u8 a3) := by rw [ha]; exact (putSel_off rfl).trans rfl
                       replace ha := Aside0.mk ha
                       have HB := Aside0.mk Q_HB
                       refine value_ (w1 := w') (v := .int .u8 (Int.tmod a3 10)) (by rfl) rfl ?_ ?_
                       ·go_simp
                        (try simp only [i64_w])
                        try rfl
                       refine hK.out _ _ ⟨v233, v236, v239, v242, v245, (by rw [ha.out]; exact putSel_upk 22 hb_ rfl rfl rfl), Q_HB, Q_HO234, Q_HO237, fun h0_ => absurd ((hoff 45 (by kernel_rfl)).symm.trans h0_) (by decide), Q_HO243, fun h0_ => absurd ((hoff 71 (by kernel_rfl)).symm.trans h0_) (by decide)⟩
                      refine steps_cons ?_ ?_
                      ·rintro b a w' ⟨v233, v236, v239, v242, v245, ha, Q_HB, Q_HO234, Q_HO237, Q_HO240, Q_HO243, Q_HO246⟩ hb_ hon hoff
                       refine ⟨_, rfl, fun K hK => ?_⟩
                       have e135 : a.tmps[135]? = some (.int .u8 (Int.tmod a3 10)) := by rw [ha]; exact putSel_on (e := (43, 135, .int .u8 (Int.tmod a3 10))) 22 rfl rfl (hon 43 (by kernel_rfl)) rfl
                       replace ha := Aside0.mk ha
                       have HB := Aside0.mk Q_HB
                       refine value_ (w1 := w') (v := .int .u8 ((48 + (Int.tmod a3 10)) % 256)) (by rfl) rfl ?_ ?_
                       ·go_simp
                        (try simp only [i64_w])
                        try rfl
                       refine hK.out _ _ ⟨v233, v236, v239, v242, v245, (by rw [ha.out]; exact putSel_upk 23 hb_ rfl rfl rfl), Q_HB, Q_HO234, Q_HO237, fun h0_ => absurd ((hoff 45 (by kernel_rfl)).symm.trans h0_) (by decide), Q_HO243, fun h0_ => absurd ((hoff 71 (by kernel_rfl)).symm.trans h0_) (by decide)⟩
                      refine steps_cons ?_ ?_
                      ·rintro b a w' ⟨v233, v236, v239, v242, v245, ha, Q_HB, Q_HO234, Q_HO237, Q_HO240, Q_HO243, Q_HO246⟩ hb_ hon hoff
                       refine ⟨_, rfl, fun K hK => ?_⟩
                       have e136 : a.tmps[136]? = some (.int .u8 ((48 + (Int.tmod a3 10)) % 256)) := by rw [ha]; exact putSel_on (e := (44, 136, .int .u8 ((48 + (Int.tmod a3 10)) % 256))) 23 rfl rfl (hon 44 (by kernel_rfl)) rfl
                       replace ha := Aside0.mk ha
                       have HB := Aside0.mk Q_HB
                       refine Kd.R_lit_step (Kd.int .u8) _ 5 ?hg (N := 137) ?hd (xs := ([(48 + (Int.tmod a3 10)) % 256] : List Int)) (inner := [.int .u8 ((48 + (Int.tmod a3 10)) % 256)]) (ok := fun _ => True) (okp := fun _ => True) ?hr ?hp (fun _ hk => hk) trivial (Below.refl _ _) (Nat.le_refl _) (by simp) ?_; (case hd => rfl); (case hg => rfl); (case hr => first | (go_simp; done) | (go_simp; rfl)); (case hp => exact (Reps.one (show Kd.M (Kd.int .u8) _ _ _ ((48 + (Int.tmod a3 10)) % 256) [.int .u8 ((48 + (Int.tmod a3 10)) % 256)] from rfl) (Reps.none _ _)))
                       intro v239 w52 ho53 hb hg_ hnew_
                       clear hg_ hnew_
                       (first | rw [← Ny238.out] at ho53 | (simp only [Int.reduceToNat] at ho53; rw [← Ny238.out] at ho53))
                       have n0_ := Aside0.mk (Kd.R_lower ho53 (below_size (by repeat (first | (with_reducible first | exact HB.out | apply below_alloc | apply pw_below_drewN | apply below_drew1) | exact HB.out))))
                       have n1_ := Aside0.mk (below_step (by repeat (first | (with_reducible first | exact HB.out | apply below_alloc | apply pw_below_drewN | apply below_drew1) | exact HB.out)) hb)
                       have z_HO234 := fun (h0_ : b 15 = true) => (show Kd.R (Kd.int .u8) 5 w52 w.heap.size (fun _ => True) v233 y232 from by first | exact (Kd.R_elder' (by (with_reducible repeat (first | apply Kd.R_alloc | apply Kd.R_drewN | apply Kd.R_drew)); exact (Q_HO234 h0_)) (Kd.R_base ho53) hb) | exact Kd.R_mono (Kd.R_elder' (by (with_reducible repeat (first | apply Kd.R_alloc | apply Kd.R_drewN | apply Kd.R_drew)); exact (Q_HO234 h0_)) (Kd.R_base ho53) hb) (fun _ h_ => by first | trivial | exact h_ | exact h_.1))
                       have z_HO237 := fun (h0_ : b 30 = true) => (show Kd.R (Kd.int .u8) 5 w52 w.heap.size (fun _ => True) v236 y235 from by first | exact (Kd.R_elder' (by (with_reducible repeat (first | apply Kd.R_alloc | apply Kd.R_drewN | apply Kd.R_drew)); exact (Q_HO237 h0_)) (Kd.R_base ho53) hb) | exact Kd.R_mono (Kd.R_elder' (by (with_reducible repeat (first | apply Kd.R_alloc | apply Kd.R_drewN | apply Kd.R_drew)); exact (Q_HO237 h0_)) (Kd.R_base ho53) hb) (fun _ h_ => by first | trivial | exact h_ | exact h_.1))
                       have z_HO243 := fun (h0_ : b 62 = true) => (show Kd.R (Kd.int .u8) 5 w52 w.heap.size (fun _ => True) v242 y241 from by first | exact (Kd.R_elder' (by (with_reducible repeat (first | apply Kd.R_alloc | apply Kd.R_drewN | apply Kd.R_drew)); exact (Q_HO243 h0_)) (Kd.R_base ho53) hb) | exact Kd.R_mono (Kd.R_elder' (by (with_reducible repeat (first | apply Kd.R_alloc | apply Kd.R_drewN | apply Kd.R_drew)); exact (Q_HO243 h0_)) (Kd.R_base ho53) hb) (fun _ h_ => by first | trivial | exact h_ | exact h_.1))
                       clear HB
                       have HO240 := n0_
                       have HB := n1_
                       clear n0_ n1_
                       clear hb ho53
                       refine hK.out _ _ ⟨v233, v236, v239, v242, v245, (by rw [ha.out]; exact putSel_upk 24 hb_ rfl rfl rfl), (by repeat (first | (with_reducible first | exact HB.out | apply below_alloc | apply pw_below_drewN | apply below_drew1) | exact HB.out)), z_HO234, z_HO237, fun _ => (by (with_reducible repeat (first | apply Kd.R_alloc | apply Kd.R_drewN | apply Kd.R_drew)); exact HO240.out), z_HO243, fun h0_ => absurd ((hoff 71 (by kernel_rfl)).symm.trans h0_) (by decide)⟩
                      refine steps_cons ?_ ?_
                      ·rintro b a w' ⟨v233, v236, v239, v242, v245, ha, Q_HB, Q_HO234, Q_HO237, Q_HO240, Q_HO243, Q_HO246⟩ hb_ hon hoff
                       refine ⟨_, rfl, fun K hK => ?_⟩
                       have e137 : a.tmps[137]? = some (v239) := by rw [ha]; exact putSel_on (e := (45, 137, v239)) 24 rfl rfl (hon 45 (by kernel_rfl)) rfl
                       replace ha := Aside0.mk ha
                       have HB := Aside0.mk Q_HB
                       have HO240 := Aside0.mk (Q_HO240 (hon 45 (by kernel_rfl)))
                       obtain ⟨Ao46_0, co46_0, eo_⟩ := Kd.R_slice HO240.out
                       subst eo_
                       have hcv_ := own_string (P := Tryd.prog) Tryd.underlying35 Tryd.underlying5 Tryd.underlying9 (Kd.own_of_R HO240.out)
                       refine value_ (w1 := w') (v := .string (strOfNums y238)) (by rfl) rfl ?_ ?_
                       ·go_simp
                        (try simp only [i64_w])
                        try rfl
                       refine hK.out _ _ ⟨v233, v236, .slice Ao46_0 y238.length co46_0, v242, v245, (by rw [ha.out]; exact putSel_upk 25 hb_ rfl rfl rfl), Q_HB, Q_HO234, Q_HO237, Q_HO240, Q_HO243, fun h0_ => absurd ((hoff 71 (by kernel_rfl)).symm.trans h0_) (by decide)⟩
                      refine steps_cons ?_ ?_
                      ·rintro b a w' ⟨v233, v236, v239, v242, v245, ha, Q_HB, Q_HO234, Q_HO237, Q_HO240, Q_HO243, Q_HO246⟩ hb_ hon hoff
                       refine ⟨_, rfl, fun K hK => ?_⟩
                       have e133 : a.tmps[133]? = some (.string (t229.extract 0 ((ji22) : Int).toNat)) := by rw [ha]; exact putSel_on (e := (41, 133, .string (t229.extract 0 ((ji22) : Int).toNat))) 21 rfl rfl (hon 41 (by kernel_rfl)) rfl
                       have e138 : a.tmps[138]? = some (.string (strOfNums y238)) := by rw [ha]; exact putSel_on (e := (46, 138, .string (strOfNums y238))) 25 rfl rfl (hon 46 (by kernel_rfl)) rfl
                       replace ha := Aside0.mk ha
                       have HB := Aside0.mk Q_HB
                       have HO240 := Aside0.mk (Q_HO240 (hon 45 (by kernel_rfl)))
                       refine value_ (w1 := w') (v := .string ((t229.extract 0 ((ji22) : Int).toNat) ++ (strOfNums y238))) (by rfl) rfl ?_ ?_
                       ·go_simp
                        (try simp only [i64_w])
                        try rfl
                       refine hK.out _ _ ⟨v233, v236, v239, v242, v245, (by rw [ha.out]; exact putSel_upk 26 hb_ rfl rfl rfl), Q_HB, Q_HO234, Q_HO237, Q_HO240, Q_HO243, fun h0_ => absurd ((hoff 71 (by kernel_rfl)).symm.trans h0_) (by decide)⟩
                      refine steps_cons ?_ ?_
                      ·rintro b a w' ⟨v233, v236, v239, v242, v245, ha, Q_HB, Q_HO234, Q_HO237, Q_HO240, Q_HO243, Q_HO246⟩ hb_ hon hoff
                       refine ⟨_, rfl, fun K hK => ?_⟩
                       have e141 : a.tmps[141]? = some (.int .i64 ji22) := by rw [ha]; exact (putSel_off rfl).trans rfl
                       replace ha := Aside0.mk ha
                       have HB := Aside0.mk Q_HB
                       refine value_ (w1 := w') (v := .int .i64 ji26) (by rfl) rfl ?_ ?_
                       ·go_simp
                        (try simp only [i64_w])
                        try rfl
                       refine hK.out _ _ ⟨v233, v236, v239, v242, v245, (by rw [ha.out]; exact putSel_upk 27 hb_ rfl rfl rfl), Q_HB, Q_HO234, Q_HO237, Q_HO240, Q_HO243, fun h0_ => absurd ((hoff 71 (by kernel_rfl)).symm.trans h0_) (by decide)⟩
                      refine steps_cons ?_ ?_
                      ·rintro b a w' ⟨v233, v236, v239, v242, v245, ha, Q_HB, Q_HO234, Q_HO237, Q_HO240, Q_HO243, Q_HO246⟩ hb_ hon hoff
                       refine ⟨_, rfl, fun K hK => ?_⟩
                       have e140 : a.tmps[140]? = some (.string t229) := by rw [ha]; exact (putSel_off rfl).trans rfl
                       have e142 : a.tmps[142]? = some (.int .i64 ji26) := by rw [ha]; exact putSel_on (e := (50, 142, .int .i64 ji26)) 27 rfl rfl (hon 50 (by kernel_rfl)) rfl
                       replace ha := Aside0.mk ha
                       have HB := Aside0.mk Q_HB
                       refine value_ (w1 := w') (v := .string (t229.extract ((ji26) : Int).toNat t229.size)) (by rfl) rfl ?_ ?_
                       ·go_simp
                        (try simp only [i64_w])
                        try rfl
                       refine hK.out _ _ ⟨v233, v236, v239, v242, v245, (by rw [ha.out]; exact putSel_upk 28 hb_ rfl rfl rfl), Q_HB, Q_HO234, Q_HO237, Q_HO240, Q_HO243, fun h0_ => absurd ((hoff 71 (by kernel_rfl)).symm.trans h0_) (by decide)⟩
                      refine steps_cons ?_ ?_
                      ·rintro b a w' ⟨v233, v236, v239, v242, v245, ha, Q_HB, Q_HO234, Q_HO237, Q_HO240, Q_HO243, Q_HO246⟩ hb_ hon hoff
                       refine ⟨_, rfl, fun K hK => ?_⟩
                       have e139 : a.tmps[139]? = some (.string ((t229.extract 0 ((ji22) : Int).toNat) ++ (strOfNums y238))) := by rw [ha]; exact putSel_on (e := (47, 139, .string ((t229.extract 0 ((ji22) : Int).toNat) ++ (strOfNums y238)))) 26 rfl rfl (hon 47 (by kernel_rfl)) rfl
                       have e143 : a.tmps[143]? = some (.string (t229.extract ((ji26) : Int).toNat t229.size)) := by rw [ha]; exact putSel_on (e := (51, 143, .string (t229.extract ((ji26) : Int).toNat t229.size))) 28 rfl rfl (hon 51 (by kernel_rfl)) rfl
                       replace ha := Aside0.mk ha
                       have HB := Aside0.mk Q_HB
                       have HO240 := Aside0.mk (Q_HO240 (hon 45 (by kernel_rfl)))
                       refine value_ (w1 := w') (v := .string (((t229.extract 0 ((ji22) : Int).toNat) ++ (strOfNums y238)) ++ (t229.extract ((ji26) : Int).toNat t229.size))) (by rfl) rfl ?_ ?_
                       ·go_simp
                        (try simp only [i64_w])
                        try rfl
                       refine hK.out _ _ ⟨v233, v236, v239, v242, v245, (by rw [ha.out]; exact putSel_upk 29 hb_ rfl rfl rfl), Q_HB, Q_HO234, Q_HO237, Q_HO240, Q_HO243, fun h0_ => absurd ((hoff 71 (by kernel_rfl)).symm.trans h0_) (by decide)⟩
                      refine steps_cons ?_ ?_
                      ·rintro b a w' ⟨v233, v236, v239, v242, v245, ha, Q_HB, Q_HO234, Q_HO237, Q_HO240, Q_HO243, Q_HO246⟩ hb_ hon hoff
                       refine ⟨_, rfl, fun K hK => ?_⟩
                       have e144 : a.tmps[144]? = some (.string (((t229.extract 0 ((ji22) : Int).toNat) ++ (strOfNums y238)) ++ (t229.extract ((ji26) : Int).toNat t229.size))) := by rw [ha]; exact putSel_on (e := (52, 144, .string (((t229.extract 0 ((ji22) : Int).toNat) ++ (strOfNums y238)) ++ (t229.extract ((ji26) : Int).toNat t229.size)))) 29 rfl rfl (hon 52 (by kernel_rfl)) rfl
                       have e145 : a.tmps[145]? = some (.string t230) := by rw [ha]; exact (putSel_off rfl).trans rfl
                       replace ha := Aside0.mk ha
                       have HB := Aside0.mk Q_HB
                       have HO240 := Aside0.mk (Q_HO240 (hon 45 (by kernel_rfl)))
                       refine value_ (w1 := w') (v := .agg #[.string (((t229.extract 0 ((ji22) : Int).toNat) ++ (strOfNums y238)) ++ (t229.extract ((ji26) : Int).toNat t229.size)), .string t230]) (by rfl) rfl ?_ ?_
                       ·go_simp
                        (try simp only [i64_w])
                        try rfl
                       refine hK.out _ _ ⟨v233, v236, v239, v242, v245, (by rw [ha.out]; exact putSel_upk 30 hb_ rfl rfl rfl), Q_HB, Q_HO234, Q_HO237, Q_HO240, Q_HO243, fun h0_ => absurd ((hoff 71 (by kernel_rfl)).symm.trans h0_) (by decide)⟩
                      refine steps_cons ?_ ?_
                      ·rintro b a w' ⟨v233, v236, v239, v242, v245, ha, Q_HB, Q_HO234, Q_HO237, Q_HO240, Q_HO243, Q_HO246⟩ hb_ hon hoff
                       refine ⟨_, rfl, fun K hK => ?_⟩
                       have e148 : a.tmps[148]? = some (.string t230) := by rw [ha]; exact (putSel_off rfl).trans rfl
                       have e149 : a.tmps[149]? = some (.int .i64 ji30) := by rw [ha]; exact (putSel_off rfl).trans rfl
                       replace ha := Aside0.mk ha
                       have HB := Aside0.mk Q_HB
                       refine value_ (w1 := w') (v := .string (t230.extract 0 ((ji30) : Int).toNat)) (by rfl) rfl ?_ ?_
                       ·go_simp
                        (try simp only [i64_w])
                        try rfl
                       refine hK.out _ _ ⟨v233, v236, v239, v242, v245, (by rw [ha.out]; exact putSel_upk 31 hb_ rfl rfl rfl), Q_HB, Q_HO234, Q_HO237, Q_HO240, Q_HO243, fun h0_ => absurd ((hoff 71 (by kernel_rfl)).symm.trans h0_) (by decide)⟩
                      refine steps_cons ?_ ?_
                      ·rintro b a w' ⟨v233, v236, v239, v242, v245, ha, Q_HB, Q_HO234, Q_HO237, Q_HO240, Q_HO243, Q_HO246⟩ hb_ hon hoff
                       refine ⟨_, rfl, fun K hK => ?_⟩
                       have e151 : a.tmps[151]? = some (.int .u8 a3) := by rw [ha]; exact (putSel_off rfl).trans rfl
                       replace ha := Aside0.mk ha
                       have HB := Aside0.mk Q_HB
                       refine value_ (w1 := w') (v := .int .u8 (Int.tmod a3 10)) (by rfl) rfl ?_ ?_
                       ·go_simp
                        (try simp only [i64_w])
                        try rfl
                       refine hK.out _ _ ⟨v233, v236, v239, v242, v245, (by rw [ha.out]; exact putSel_upk 32 hb_ rfl rfl rfl), Q_HB, Q_HO234, Q_HO237, Q_HO240, fun h0_ => absurd ((hoff 62 (by kernel_rfl)).symm.trans h0_) (by decide), fun h0_ => absurd ((hoff 71 (by kernel_rfl)).symm.trans h0_) (by decide)⟩
                      refine steps_cons ?_ ?_
                      ·rintro b a w' ⟨v233, v236, v239, v242, v245, ha, Q_HB, Q_HO234, Q_HO237, Q_HO240, Q_HO243, Q_HO246⟩ hb_ hon hoff
                       refine ⟨_, rfl, fun K hK => ?_⟩
                       have e152 : a.tmps[152]? = some (.int .u8 (Int.tmod a3 10)) := by rw [ha]; exact putSel_on (e := (60, 152, .int .u8 (Int.tmod a3 10))) 32 rfl rfl (hon 60 (by kernel_rfl)) rfl
                       replace ha := Aside0.mk ha
                       have HB := Aside0.mk Q_HB
                       refine value_ (w1 := w') (v := .int .u8 ((48 + (Int.tmod a3 10)) % 256)) (by rfl) rfl ?_ ?_
                       ·go_simp
                        (try simp only [i64_w])
                        try rfl
                       refine hK.out _ _ ⟨v233, v236, v239, v242, v245, (by rw [ha.out]; exact putSel_upk 33 hb_ rfl rfl rfl), Q_HB, Q_HO234, Q_HO237, Q_HO240, fun h0_ => absurd ((hoff 62 (by kernel_rfl)).symm.trans h0_) (by decide), fun h0_ => absurd ((hoff 71 (by kernel_rfl)).symm.trans h0_) (by decide)⟩
                      refine steps_cons ?_ ?_
                      ·rintro b a w' ⟨v233, v236, v239, v242, v245, ha, Q_HB, Q_HO234, Q_HO237, Q_HO240, Q_HO243, Q_HO246⟩ hb_ hon hoff
                       refine ⟨_, rfl, fun K hK => ?_⟩
                       have e153 : a.tmps[153]? = some (.int .u8 ((48 + (Int.tmod a3 10)) % 256)) := by rw [ha]; exact putSel_on (e := (61, 153, .int .u8 ((48 + (Int.tmod a3 10)) % 256))) 33 rfl rfl (hon 61 (by kernel_rfl)) rfl
                       replace ha := Aside0.mk ha
                       have HB := Aside0.mk Q_HB
                       refine Kd.R_lit_step (Kd.int .u8) _ 5 ?hg (N := 154) ?hd (xs := ([(48 + (Int.tmod a3 10)) % 256] : List Int)) (inner := [.int .u8 ((48 + (Int.tmod a3 10)) % 256)]) (ok := fun _ => True) (okp := fun _ => True) ?hr ?hp (fun _ hk => hk) trivial (Below.refl _ _) (Nat.le_refl _) (by simp) ?_; (case hd => rfl); (case hg => rfl); (case hr => first | (go_simp; done) | (go_simp; rfl)); (case hp => exact (Reps.one (show Kd.M (Kd.int .u8) _ _ _ ((48 + (Int.tmod a3 10)) % 256) [.int .u8 ((48 + (Int.tmod a3 10)) % 256)] from rfl) (Reps.none _ _)))
                       intro v242 w52 ho53 hb hg_ hnew_
                       clear hg_ hnew_
                       (first | rw [← Ny241.out] at ho53 | (simp only [Int.reduceToNat] at ho53; rw [← Ny241.out] at ho53))
                       have n0_ := Aside0.mk (Kd.R_lower ho53 (below_size (by repeat (first | (with_reducible first | exact HB.out | apply below_alloc | apply pw_below_drewN | apply below_drew1) | exact HB.out))))
                       have n1_ := Aside0.mk (below_step (by repeat (first | (with_reducible first | exact HB.out | apply below_alloc | apply pw_below_drewN | apply below_drew1) | exact HB.out)) hb)
                       have z_HO234 := fun (h0_ : b 15 = true) => (show Kd.R (Kd.int .u8) 5 w52 w.heap.size (fun _ => True) v233 y232 from by first | exact (Kd.R_elder' (by (with_reducible repeat (first | apply Kd.R_alloc | apply Kd.R_drewN | apply Kd.R_drew)); exact (Q_HO234 h0_)) (Kd.R_base ho53) hb) | exact Kd.R_mono (Kd.R_elder' (by (with_reducible repeat (first | apply Kd.R_alloc | apply Kd.R_drewN | apply Kd.R_drew)); exact (Q_HO234 h0_)) (Kd.R_base ho53) hb) (fun _ h_ => by first | trivial | exact h_ | exact h_.1))
                       have z_HO237 := fun (h0_ : b 30 = true) => (show Kd.R (Kd.int .u8) 5 w52 w.heap.size (fun _ => True) v236 y235 from by first | exact (Kd.R_elder' (by (with_reducible repeat (first | apply Kd.R_alloc | apply Kd.R_drewN | apply Kd.R_drew)); exact (Q_HO237 h0_)) (Kd.R_base ho53) hb) | exact Kd.R_mono (Kd.R_elder' (by (with_reducible repeat (first | apply Kd.R_alloc | apply Kd.R_drewN | apply Kd.R_drew)); exact (Q_HO237 h0_)) (Kd.R_base ho53) hb) (fun _ h_ => by first | trivial | exact h_ | exact h_.1))
                       have z_HO240 := fun (h0_ : b 45 = true) => (show Kd.R (Kd.int .u8) 5 w52 w.heap.size (fun _ => True) v239 y238 from by first | exact (Kd.R_elder' (by (with_reducible repeat (first | apply Kd.R_alloc | apply Kd.R_drewN | apply Kd.R_drew)); exact (Q_HO240 h0_)) (Kd.R_base ho53) hb) | exact Kd.R_mono (Kd.R_elder' (by (with_reducible repeat (first | apply Kd.R_alloc | apply Kd.R_drewN | apply Kd.R_drew)); exact (Q_HO240 h0_)) (Kd.R_base ho53) hb) (fun _ h_ => by first | trivial | exact h_ | exact h_.1))
                       clear HB
                       have HO243 := n0_
                       have HB := n1_
                       clear n0_ n1_
                       clear hb ho53
                       refine hK.out _ _ ⟨v233, v236, v239, v242, v245, (by rw [ha.out]; exact putSel_upk 34 hb_ rfl rfl rfl), (by repeat (first | (with_reducible first | exact HB.out | apply below_alloc | apply pw_below_drewN | apply below_drew1) | exact HB.out)), z_HO234, z_HO237, z_HO240, fun _ => (by (with_reducible repeat (first | apply Kd.R_alloc | apply Kd.R_drewN | apply Kd.R_drew)); exact HO243.out), fun h0_ => absurd ((hoff 71 (by kernel_rfl)).symm.trans h0_) (by decide)⟩
                      refine steps_cons ?_ ?_
                      ·rintro b a w' ⟨v233, v236, v239, v242, v245, ha, Q_HB, Q_HO234, Q_HO237, Q_HO240, Q_HO243, Q_HO246⟩ hb_ hon hoff
                       refine ⟨_, rfl, fun K hK => ?_⟩
                       have e154 : a.tmps[154]? = some (v242) := by rw [ha]; exact putSel_on (e := (62, 154, v242)) 34 rfl rfl (hon 62 (by kernel_rfl)) rfl
                       replace ha := Aside0.mk ha
                       have HB := Aside0.mk Q_HB
                       have HO243 := Aside0.mk (Q_HO243 (hon 62 (by kernel_rfl)))
                       obtain ⟨Ao63_0, co63_0, eo_⟩ := Kd.R_slice HO243.out
                       subst eo_
                       have hcv_ := own_string (P := Tryd.prog) Tryd.underlying35 Tryd.underlying5 Tryd.underlying9 (Kd.own_of_R HO243.out)
                       refine value_ (w1 := w') (v := .string (strOfNums y241)) (by rfl) rfl ?_ ?_
                       ·go_simp
                        (try simp only [i64_w])
                        try rfl
                       refine hK.out _ _ ⟨v233, v236, v239, .slice Ao63_0 y241.length co63_0, v245, (by rw [ha.out]; exact putSel_upk 35 hb_ rfl rfl rfl), Q_HB, Q_HO234, Q_HO237, Q_HO240, Q_HO243, fun h0_ => absurd ((hoff 71 (by kernel_rfl)).symm.trans h0_) (by decide)⟩
                      refine steps_cons ?_ ?_
                      ·rintro b a w' ⟨v233, v236, v239, v242, v245, ha, Q_HB, Q_HO234, Q_HO237, Q_HO240, Q_HO243, Q_HO246⟩ hb_ hon hoff
                       refine ⟨_, rfl, fun K hK => ?_⟩
                       have e150 : a.tmps[150]? = some (.string (t230.extract 0 ((ji30) : Int).toNat)) := by rw [ha]; exact putSel_on (e := (58, 150, .string (t230.extract 0 ((ji30) : Int).toNat))) 31 rfl rfl (hon 58 (by kernel_rfl)) rfl
                       have e155 : a.tmps[155]? = some (.string (strOfNums y241)) := by rw [ha]; exact putSel_on (e := (63, 155, .string (strOfNums y241))) 35 rfl rfl (hon 63 (by kernel_rfl)) rfl
                       replace ha := Aside0.mk ha
                       have HB := Aside0.mk Q_HB
                       have HO243 := Aside0.mk (Q_HO243 (hon 62 (by kernel_rfl)))
                       refine value_ (w1 := w') (v := .string ((t230.extract 0 ((ji30) : Int).toNat) ++ (strOfNums y241))) (by rfl) rfl ?_ ?_
                       ·go_simp
                        (try simp only [i64_w])
                        try rfl
                       refine hK.out _ _ ⟨v233, v236, v239, v242, v245, (by rw [ha.out]; exact putSel_upk 36 hb_ rfl rfl rfl), Q_HB, Q_HO234, Q_HO237, Q_HO240, Q_HO243, fun h0_ => absurd ((hoff 71 (by kernel_rfl)).symm.trans h0_) (by decide)⟩
                      refine steps_cons ?_ ?_
                      ·rintro b a w' ⟨v233, v236, v239, v242, v245, ha, Q_HB, Q_HO234, Q_HO237, Q_HO240, Q_HO243, Q_HO246⟩ hb_ hon hoff
                       refine ⟨_, rfl, fun K hK => ?_⟩
                       have e158 : a.tmps[158]? = some (.int .i64 ji30) := by rw [ha]; exact (putSel_off rfl).trans rfl
                       replace ha := Aside0.mk ha
                       have HB := Aside0.mk Q_HB
                       refine value_ (w1 := w') (v := .int .i64 ji34) (by rfl) rfl ?_ ?_
                       ·go_simp
                        (try simp only [i64_w])
                        try rfl
                       refine hK.out _ _ ⟨v233, v236, v239, v242, v245, (by rw [ha.out]; exact putSel_upk 37 hb_ rfl rfl rfl), Q_HB, Q_HO234, Q_HO237, Q_HO240, Q_HO243, fun h0_ => absurd ((hoff 71 (by kernel_rfl)).symm.trans h0_) (by decide)⟩
                      refine steps_cons ?_ ?_
                      ·rintro b a w' ⟨v233, v236, v239, v242, v245, ha, Q_HB, Q_HO234, Q_HO237, Q_HO240, Q_HO243, Q_HO246⟩ hb_ hon hoff
                       refine ⟨_, rfl, fun K hK => ?_⟩
                       have e157 : a.tmps[157]? = some (.string t230) := by rw [ha]; exact (putSel_off rfl).trans rfl
                       have e159 : a.tmps[159]? = some (.int .i64 ji34) := by rw [ha]; exact putSel_on (e := (67, 159, .int .i64 ji34)) 37 rfl rfl (hon 67 (by kernel_rfl)) rfl
                       replace ha := Aside0.mk ha
                       have HB := Aside0.mk Q_HB
                       refine value_ (w1 := w') (v := .string (t230.extract ((ji34) : Int).toNat t230.size)) (by rfl) rfl ?_ ?_
                       ·go_simp
                        (try simp only [i64_w])
                        try rfl
                       refine hK.out _ _ ⟨v233, v236, v239, v242, v245, (by rw [ha.out]; exact putSel_upk 38 hb_ rfl rfl rfl), Q_HB, Q_HO234, Q_HO237, Q_HO240, Q_HO243, fun h0_ => absurd ((hoff 71 (by kernel_rfl)).symm.trans h0_) (by decide)⟩
                      refine steps_cons ?_ ?_
                      ·rintro b a w' ⟨v233, v236, v239, v242, v245, ha, Q_HB, Q_HO234, Q_HO237, Q_HO240, Q_HO243, Q_HO246⟩ hb_ hon hoff
                       refine ⟨_, rfl, fun K hK => ?_⟩
                       have e156 : a.tmps[156]? = some (.string ((t230.extract 0 ((ji30) : Int).toNat) ++ (strOfNums y241))) := by rw [ha]; exact putSel_on (e := (64, 156, .string ((t230.extract 0 ((ji30) : Int).toNat) ++ (strOfNums y241)))) 36 rfl rfl (hon 64 (by kernel_rfl)) rfl
                       have e160 : a.tmps[160]? = some (.string (t230.extract ((ji34) : Int).toNat t230.size)) := by rw [ha]; exact putSel_on (e := (68, 160, .string (t230.extract ((ji34) : Int).toNat t230.size))) 38 rfl rfl (hon 68 (by kernel_rfl)) rfl
                       replace ha := Aside0.mk ha
                       have HB := Aside0.mk Q_HB
                       have HO243 := Aside0.mk (Q_HO243 (hon 62 (by kernel_rfl)))
                       refine value_ (w1 := w') (v := .string (((t230.extract 0 ((ji30) : Int).toNat) ++ (strOfNums y241)) ++ (t230.extract ((ji34) : Int).toNat t230.size))) (by rfl) rfl ?_ ?_
                       ·go_simp
                        (try simp only [i64_w])
                        try rfl
                       refine hK.out _ _ ⟨v233, v236, v239, v242, v245, (by rw [ha.out]; exact putSel_upk 39 hb_ rfl rfl rfl), Q_HB, Q_HO234, Q_HO237, Q_HO240, Q_HO243, fun h0_ => absurd ((hoff 71 (by kernel_rfl)).symm.trans h0_) (by decide)⟩
                      refine steps_cons ?_ ?_
                      ·rintro b a w' ⟨v233, v236, v239, v242, v245, ha, Q_HB, Q_HO234, Q_HO237, Q_HO240, Q_HO243, Q_HO246⟩ hb_ hon hoff
                       refine ⟨_, rfl, fun K hK => ?_⟩
                       have e147 : a.tmps[147]? = some (.string t229) := by rw [ha]; exact (putSel_off rfl).trans rfl
                       have e161 : a.tmps[161]? = some (.string (((t230.extract 0 ((ji30) : Int).toNat) ++ (strOfNums y241)) ++ (t230.extract ((ji34) : Int).toNat t230.size))) := by rw [ha]; exact putSel_on (e := (69, 161, .string (((t230.extract 0 ((ji30) : Int).toNat) ++ (strOfNums y241)) ++ (t230.extract ((ji34) : Int).toNat t230.size)))) 39 rfl rfl (hon 69 (by kernel_rfl)) rfl
                       replace ha := Aside0.mk ha
                       have HB := Aside0.mk Q_HB
                       have HO243 := Aside0.mk (Q_HO243 (hon 62 (by kernel_rfl)))
                       refine value_ (w1 := w') (v := .agg #[.string t229, .string (((t230.extract 0 ((ji30) : Int).toNat) ++ (strOfNums y241)) ++ (t230.extract ((ji34) : Int).toNat t230.size))]) (by rfl) rfl ?_ ?_
                       ·go_simp
                        (try simp only [i64_w])
                        try rfl
                       refine hK.out _ _ ⟨v233, v236, v239, v242, v245, (by rw [ha.out]; exact putSel_upk 40 hb_ rfl rfl rfl), Q_HB, Q_HO234, Q_HO237, Q_HO240, Q_HO243, fun h0_ => absurd ((hoff 71 (by kernel_rfl)).symm.trans h0_) (by decide)⟩
                      refine steps_cons ?_ ?_
                      ·rintro b a w' ⟨v233, v236, v239, v242, v245, ha, Q_HB, Q_HO234, Q_HO237, Q_HO240, Q_HO243, Q_HO246⟩ hb_ hon hoff
                       refine ⟨_, rfl, fun K hK => ?_⟩
                       have e95 : a.tmps[95]? = some (.agg #[.string (strOfNums l0), .string t230]) := by rw [ha]; exact putSel_on (e := (3, 95, .agg #[.string (strOfNums l0), .string t230])) 1 rfl rfl (hon 3 (by kernel_rfl)) rfl
                       have e99 : a.tmps[99]? = some (.agg #[.string t229, .string (strOfNums l0)]) := by rw [ha]; exact putSel_on (e := (7, 99, .agg #[.string t229, .string (strOfNums l0)])) 3 rfl rfl (hon 7 (by kernel_rfl)) rfl
                       have e102 : a.tmps[102]? = some (.agg #[.string t229, .string t230]) := by rw [ha]; exact putSel_on (e := (10, 102, .agg #[.string t229, .string t230])) 4 rfl rfl (hon 10 (by kernel_rfl)) rfl
                       have e116 : a.tmps[116]? = some (.agg #[.string (((t229.extract 0 ((ji22) : Int).toNat) ++ (strOfNums y232)) ++ (t229.extract ((ji26) : Int).toNat t229.size)), .string t230]) := by rw [ha]; exact putSel_on (e := (24, 116, .agg #[.string (((t229.extract 0 ((ji22) : Int).toNat) ++ (strOfNums y232)) ++ (t229.extract ((ji26) : Int).toNat t229.size)), .string t230])) 12 rfl rfl (hon 24 (by kernel_rfl)) rfl
                       have e130 : a.tmps[130]? = some (.agg #[.string t229, .string (((t230.extract 0 ((ji30) : Int).toNat) ++ (strOfNums y235)) ++ (t230.extract ((ji34) : Int).toNat t230.size))]) := by rw [ha]; exact putSel_on (e := (38, 130, .agg #[.string t229, .string (((t230.extract 0 ((ji30) : Int).toNat) ++ (strOfNums y235)) ++ (t230.extract ((ji34) : Int).toNat t230.size))])) 20 rfl rfl (hon 38 (by kernel_rfl)) rfl
                       have e146 : a.tmps[146]? = some (.agg #[.string (((t229.extract 0 ((ji22) : Int).toNat) ++ (strOfNums y238)) ++ (t229.extract ((ji26) : Int).toNat t229.size)), .string t230]) := by rw [ha]; exact putSel_on (e := (54, 146, .agg #[.string (((t229.extract 0 ((ji22) : Int).toNat) ++ (strOfNums y238)) ++ (t229.extract ((ji26) : Int).toNat t229.size)), .string t230])) 30 rfl rfl (hon 54 (by kernel_rfl)) rfl
                       have e162 : a.tmps[162]? = some (.agg #[.string t229, .string (((t230.extract 0 ((ji30) : Int).toNat) ++ (strOfNums y241)) ++ (t230.extract ((ji34) : Int).toNat t230.size))]) := by rw [ha]; exact putSel_on (e := (70, 162, .agg #[.string t229, .string (((t230.extract 0 ((ji30) : Int).toNat) ++ (strOfNums y241)) ++ (t230.extract ((ji34) : Int).toNat t230.size))])) 40 rfl rfl (hon 70 (by kernel_rfl)) rfl
                       replace ha := Aside0.mk ha
                       have HB := Aside0.mk Q_HB
                       have HO234 := Aside0.mk (Q_HO234 (hon 15 (by kernel_rfl)))
                       have HO237 := Aside0.mk (Q_HO237 (hon 30 (by kernel_rfl)))
                       have HO240 := Aside0.mk (Q_HO240 (hon 45 (by kernel_rfl)))
                       have HO243 := Aside0.mk (Q_HO243 (hon 62 (by kernel_rfl)))
                       refine Kd.R_lit_step k37 _ 37 ?hg (N := 163) ?hd (xs := ([(⟨strOfNums l0, t230⟩ : S37), (⟨t229, strOfNums l0⟩ : S37), (⟨t229, t230⟩ : S37), (⟨((t229.extract 0 ((ji22) : Int).toNat) ++ (strOfNums y232)) ++ (t229.extract ((ji26) : Int).toNat t229.size), t230⟩ : S37), (⟨t229, ((t230.extract 0 ((ji30) : Int).toNat) ++ (strOfNums y235)) ++ (t230.extract ((ji34) : Int).toNat t230.size)⟩ : S37), (⟨((t229.extract 0 ((ji22) : Int).toNat) ++ (strOfNums y238)) ++ (t229.extract ((ji26) : Int).toNat t229.size), t230⟩ : S37), (⟨t229, ((t230.extract 0 ((ji30) : Int).toNat) ++ (strOfNums y241)) ++ (t230.extract ((ji34) : Int).toNat t230.size)⟩ : S37)] : List (S37))) (inner := [.string (strOfNums l0), .string t230, .string t229, .string (strOfNums l0), .string t229, .string t230, .string (((t229.extract 0 ((ji22) : Int).toNat) ++ (strOfNums y232)) ++ (t229.extract ((ji26) : Int).toNat t229.size)), .string t230, .string t229, .string (((t230.extract 0 ((ji30) : Int).toNat) ++ (strOfNums y235)) ++ (t230.extract ((ji34) : Int).toNat t230.size)), .string (((t229.extract 0 ((ji22) : Int).toNat) ++ (strOfNums y238)) ++ (t229.extract ((ji26) : Int).toNat t229.size)), .string t230, .string t229, .string (((t230.extract 0 ((ji30) : Int).toNat) ++ (strOfNums y241)) ++ (t230.extract ((ji34) : Int).toNat t230.size))]) (ok := fun _ => True) (okp := fun _ => True) ?hr ?hp (fun _ hk => hk) trivial (Below.refl _ _) (Nat.le_refl _) (by simp) ?_; (case hd => rfl); (case hg => rfl); (case hr => first | (go_simp; done) | (go_simp; rfl)); (case hp => exact (Reps.c2 (show Kd.M k37 _ _ _ (⟨strOfNums l0, t230⟩ : S37) [.string (strOfNums l0), .string t230] from (k37_mkM _ _ _ (⟨strOfNums l0, t230⟩ : S37) )) (Reps.c2 (show Kd.M k37 _ _ _ (⟨t229, strOfNums l0⟩ : S37) [.string t229, .string (strOfNums l0)] from (k37_mkM _ _ _ (⟨t229, strOfNums l0⟩ : S37) )) (Reps.c2 (show Kd.M k37 _ _ _ (⟨t229, t230⟩ : S37) [.string t229, .string t230] from (k37_mkM _ _ _ (⟨t229, t230⟩ : S37) )) (Reps.c2 (show Kd.M k37 _ _ _ (⟨((t229.extract 0 ((ji22) : Int).toNat) ++ (strOfNums y232)) ++ (t229.extract ((ji26) : Int).toNat t229.size), t230⟩ : S37) [.string (((t229.extract 0 ((ji22) : Int).toNat) ++ (strOfNums y232)) ++ (t229.extract ((ji26) : Int).toNat t229.size)), .string t230] from (k37_mkM _ _ _ (⟨((t229.extract 0 ((ji22) : Int).toNat) ++ (strOfNums y232)) ++ (t229.extract ((ji26) : Int).toNat t229.size), t230⟩ : S37) )) (Reps.c2 (show Kd.M k37 _ _ _ (⟨t229, ((t230.extract 0 ((ji30) : Int).toNat) ++ (strOfNums y235)) ++ (t230.extract ((ji34) : Int).toNat t230.size)⟩ : S37) [.string t229, .string (((t230.extract 0 ((ji30) : Int).toNat) ++ (strOfNums y235)) ++ (t230.extract ((ji34) : Int).toNat t230.size))] from (k37_mkM _ _ _ (⟨t229, ((t230.extract 0 ((ji30) : Int).toNat) ++ (strOfNums y235)) ++ (t230.extract ((ji34) : Int).toNat t230.size)⟩ : S37) )) (Reps.c2 (show Kd.M k37 _ _ _ (⟨((t229.extract 0 ((ji22) : Int).toNat) ++ (strOfNums y238)) ++ (t229.extract ((ji26) : Int).toNat t229.size), t230⟩ : S37) [.string (((t229.extract 0 ((ji22) : Int).toNat) ++ (strOfNums y238)) ++ (t229.extract ((ji26) : Int).toNat t229.size)), .string t230] from (k37_mkM _ _ _ (⟨((t229.extract 0 ((ji22) : Int).toNat) ++ (strOfNums y238)) ++ (t229.extract ((ji26) : Int).toNat t229.size), t230⟩ : S37) )) (Reps.c2 (show Kd.M k37 _ _ _ (⟨t229, ((t230.extract 0 ((ji30) : Int).toNat) ++ (strOfNums y241)) ++ (t230.extract ((ji34) : Int).toNat t230.size)⟩ : S37) [.string t229, .string (((t230.extract 0 ((ji30) : Int).toNat) ++ (strOfNums y241)) ++ (t230.extract ((ji34) : Int).toNat t230.size))] from (k37_mkM _ _ _ (⟨t229, ((t230.extract 0 ((ji30) : Int).toNat) ++ (strOfNums y241)) ++ (t230.extract ((ji34) : Int).toNat t230.size)⟩ : S37) )) (Reps.none _ _)))))))))
                       intro v245 w61 ho62 hb hg_ hnew_
                       clear hg_ hnew_
                       (first | rw [← Ny244.out] at ho62 | (simp only [Int.reduceToNat] at ho62; rw [← Ny244.out] at ho62))
                       have n0_ := Aside0.mk (Kd.R_below (by (with_reducible repeat (first | apply Kd.R_alloc | apply Kd.R_drewN | apply Kd.R_drew)); exact HO234.out) hb)
                       have n1_ := Aside0.mk (Kd.R_below (by (with_reducible repeat (first | apply Kd.R_alloc | apply Kd.R_drewN | apply Kd.R_drew)); exact HO237.out) hb)
                       have n2_ := Aside0.mk (Kd.R_below (by (with_reducible repeat (first | apply Kd.R_alloc | apply Kd.R_drewN | apply Kd.R_drew)); exact HO240.out) hb)
                       have n3_ := Aside0.mk (Kd.R_below (by (with_reducible repeat (first | apply Kd.R_alloc | apply Kd.R_drewN | apply Kd.R_drew)); exact HO243.out) hb)
                       have n4_ := Aside0.mk (Kd.R_lower ho62 (below_size (by repeat (first | (with_reducible first | exact HB.out | apply below_alloc | apply pw_below_drewN | apply below_drew1) | exact HB.out))))
                       have n5_ := Aside0.mk (below_step (by repeat (first | (with_reducible first | exact HB.out | apply below_alloc | apply pw_below_drewN | apply below_drew1) | exact HB.out)) hb)
                       clear HO234
                       clear HO237
                       clear HO240
                       clear HO243
                       clear HB
                       have HO234 := n0_
                       have HO237 := n1_
                       have HO240 := n2_
                       have HO243 := n3_
                       have HO246 := n4_
                       have HB := n5_
                       clear n0_ n1_ n2_ n3_ n4_ n5_
                       clear hb ho62
                       obtain ⟨Ao63, co63, eo63⟩ := Kd.R_slice HO246.out
                       (first | subst eo63 | (injection eo63 with f1_ f2_ f3_; have f4_ := f1_.symm; have f5_ := f3_.symm; clear f1_ f2_ f3_; subst f4_; subst f5_))
                       refine hK.out _ _ ⟨v233, v236, v239, v242, .slice Ao63 y244.length co63, (by rw [ha.out]; exact putSel_upk 41 hb_ rfl rfl rfl), (by repeat (first | (with_reducible first | exact HB.out | apply below_alloc | apply pw_below_drewN | apply below_drew1) | exact HB.out)), fun _ => (by (with_reducible repeat (first | apply Kd.R_alloc | apply Kd.R_drewN | apply Kd.R_drew)); exact HO234.out), fun _ => (by (with_reducible repeat (first | apply Kd.R_alloc | apply Kd.R_drewN | apply Kd.R_drew)); exact HO237.out), fun _ => (by (with_reducible repeat (first | apply Kd.R_alloc | apply Kd.R_drewN | apply Kd.R_drew)); exact HO240.out), fun _ => (by (with_reducible repeat (first | apply Kd.R_alloc | apply Kd.R_drewN | apply Kd.R_drew)); exact HO243.out), fun _ => (by (with_reducible repeat (first | apply Kd.R_alloc | apply Kd.R_drewN | apply Kd.R_drew)); exact HO246.out)⟩
                      refine steps_cons ?_ ?_
                      ·rintro b a w' ⟨v233, v236, v239, v242, v245, ha, Q_HB, Q_HO234, Q_HO237, Q_HO240, Q_HO243, Q_HO246⟩ hb_ hon hoff
                       refine ⟨_, rfl, fun K hK => ?_⟩
                       have e163 : a.tmps[163]? = some (v245) := by rw [ha]; exact putSel_on (e := (71, 163, v245)) 41 rfl rfl (hon 71 (by kernel_rfl)) rfl
                       replace ha := Aside0.mk ha
                       have HB := Aside0.mk Q_HB
                       have HO234 := Aside0.mk (Q_HO234 (hon 15 (by kernel_rfl)))
                       have HO237 := Aside0.mk (Q_HO237 (hon 30 (by kernel_rfl)))
                       have HO240 := Aside0.mk (Q_HO240 (hon 45 (by kernel_rfl)))
                       have HO243 := Aside0.mk (Q_HO243 (hon 62 (by kernel_rfl)))
                       have HO246 := Aside0.mk (Q_HO246 (hon 71 (by kernel_rfl)))
                       obtain ⟨Ao72_0, co72_0, eo_⟩ := Kd.R_slice HO246.out
                       subst eo_
                       refine value_ (w1 := w') (v := .int .i64 (y244.length : Int)) (by rfl) rfl ?_ ?_
                       ·go_simp
                        (try simp only [i64_w])
                        try rfl
                       refine hK.out _ _ ⟨v233, v236, v239, v242, .slice Ao72_0 y244.length co72_0, (by rw [ha.out]; exact putSel_upk 42 hb_ rfl rfl rfl), Q_HB, Q_HO234, Q_HO237, Q_HO240, Q_HO243, Q_HO246⟩
                      exact steps_nil
                     rintro b a w63 hall ⟨v233, v236, v239, v242, v245, ha, Q_HB, Q_HO234, Q_HO237, Q_HO240, Q_HO243, Q_HO246⟩
                     clear HB
                     have hb1_ := hall 1 (by kernel_rfl)
                     have hb3_ := hall 3 (by kernel_rfl)
                     have hb6_ := hall 6 (by kernel_rfl)
                     have hb7_ := hall 7 (by kernel_rfl)
                     have hb10_ := hall 10 (by kernel_rfl)
                     have hb13_ := hall 13 (by kernel_rfl)
                     have hb15_ := hall 15 (by kernel_rfl)
                     have hb16_ := hall 16 (by kernel_rfl)
                     have hb17_ := hall 17 (by kernel_rfl)
                     have hb20_ := hall 20 (by kernel_rfl)
                     have hb21_ := hall 21 (by kernel_rfl)
                     have hb22_ := hall 22 (by kernel_rfl)
                     have hb24_ := hall 24 (by kernel_rfl)
                     have hb28_ := hall 28 (by kernel_rfl)
                     have hb30_ := hall 30 (by kernel_rfl)
                     have hb31_ := hall 31 (by kernel_rfl)
                     have hb32_ := hall 32 (by kernel_rfl)
                     have hb35_ := hall 35 (by kernel_rfl)
                     have hb36_ := hall 36 (by kernel_rfl)
                     have hb37_ := hall 37 (by kernel_rfl)
                     have hb38_ := hall 38 (by kernel_rfl)
                     have hb41_ := hall 41 (by kernel_rfl)
                     have hb43_ := hall 43 (by kernel_rfl)
                     have hb44_ := hall 44 (by kernel_rfl)
                     have hb45_ := hall 45 (by kernel_rfl)
                     have hb46_ := hall 46 (by kernel_rfl)
                     have hb47_ := hall 47 (by kernel_rfl)
                     have hb50_ := hall 50 (by kernel_rfl)
                     have hb51_ := hall 51 (by kernel_rfl)
                     have hb52_ := hall 52 (by kernel_rfl)
                     have hb54_ := hall 54 (by kernel_rfl)
                     have hb58_ := hall 58 (by kernel_rfl)
                     have hb60_ := hall 60 (by kernel_rfl)
                     have hb61_ := hall 61 (by kernel_rfl)
                     have hb62_ := hall 62 (by kernel_rfl)
                     have hb63_ := hall 63 (by kernel_rfl)
                     have hb64_ := hall 64 (by kernel_rfl)
                     have hb67_ := hall 67 (by kernel_rfl)
                     have hb68_ := hall 68 (by kernel_rfl)
                     have hb69_ := hall 69 (by kernel_rfl)
                     have hb70_ := hall 70 (by kernel_rfl)
                     have hb71_ := hall 71 (by kernel_rfl)
                     have hb72_ := hall 72 (by kernel_rfl)
                     subst ha
                     simp only [putSel, hb1_, hb3_, hb6_, hb7_, hb10_, hb13_, hb15_, hb16_, hb17_, hb20_, hb21_, hb22_, hb24_, hb28_, hb30_, hb31_, hb32_, hb35_, hb36_, hb37_, hb38_, hb41_, hb43_, hb44_, hb45_, hb46_, hb47_, hb50_, hb51_, hb52_, hb54_, hb58_, hb60_, hb61_, hb62_, hb63_, hb64_, hb67_, hb68_, hb69_, hb70_, hb71_, hb72_, if_true, Act.put, List.setIfInBounds_toArray, List.set_cons_zero, List.set_cons_succ]
                     have HB := Aside0.mk Q_HB
                     clear Q_HB
                     have HO234 := Aside0.mk (Q_HO234 hb15_)
                     clear Q_HO234
                     have HO237 := Aside0.mk (Q_HO237 hb30_)
                     clear Q_HO237
                     have HO240 := Aside0.mk (Q_HO240 hb45_)
                     clear Q_HO240
                     have HO243 := Aside0.mk (Q_HO243 hb62_)
                     clear Q_HO243
                     have HO246 := Aside0.mk (Q_HO246 hb71_)
                     clear Q_HO246
                     clear hall hb1_ hb3_ hb6_ hb7_ hb10_ hb13_ hb15_ hb16_ hb17_ hb20_ hb21_ hb22_ hb24_ hb28_ hb30_ hb31_ hb32_ hb35_ hb36_ hb37_ hb38_ hb41_ hb43_ hb44_ hb45_ hb46_ hb47_ hb50_ hb51_ hb52_ hb54_ hb58_ hb60_ hb61_ hb62_ hb63_ hb64_ hb67_ hb68_ hb69_ hb70_ hb71_ hb72_
                     obtain ⟨Ao64, co64, eo64⟩ := Kd.R_slice HO246.out
                     (first | subst eo64 | (injection eo64 with f1_ f2_ f3_; have f4_ := f1_.symm; have f5_ := f3_.symm; clear f1_ f2_ f3_; subst f4_; subst f5_))
                     try go_wp2
                     go_loopg [165] k1 (fun kq v165 w' => ∃ (x165_2 : Int), v165 = .int .i64 x165_2 ∧ Aside0 (glebelaw6_DateTells.l1 kq l0 a3 a4 a5 y244 (y244.length : Int) x165_2 = some r) ∧ Aside0 (kq ≤ k1) ∧ Aside0 (Kd.R k37 37 w' w.heap.size (fun _ => True) (.slice Ao64 y244.length co64) y244) ∧ Aside0 (Below w.heap.size w w'))
                     case atStart => exact ⟨(0), (by first | rfl | (simp only [i64_w]; done) | (simp; done) | (simp [*]; done)), H', ⟨Nat.le_refl _⟩, ⟨by (with_reducible repeat (first | apply Kd.R_alloc | apply Kd.R_drewN | apply Kd.R_drew)); exact HO246.out⟩, ⟨by repeat (first | (with_reducible first | exact HB.out | apply below_alloc | apply pw_below_drewN | apply below_drew1) | exact HB.out)⟩⟩
                     case round =>
                      clear H'
                      try clear c2
                      try clear p2
                      obtain ⟨x165_2, rfl, HA, HK2, HO_163, HB⟩ := hrel
                      cases gk with
                      | zero => exact absurd HA.out (by simp [glebelaw6_DateTells.l1])
                      | succ k2 =>
                       have H := HA.out
                       clear HA
                       simp only [glebelaw6_DateTells.l1] at H
                       by_cases c65 : x165_2 < (y244.length : Int)
                       ·rw [if_pos c65] at H
                        have c65b0 : decide (x165_2 < (y244.length : Int)) = true := decide_eq_true c65
                        clear c65
                        by_cases c66 : 0 ≤ x165_2
                        ·rw [if_pos c66] at H
                         have c66b0 : decide (0 ≤ x165_2) = true := decide_eq_true c66
                         clear c66
                         by_cases c67 : x165_2 < (y244.length : Int)
                         ·rw [if_pos c67] at H
                          have c67b0 : decide (x165_2 < (y244.length : Int)) = true := decide_eq_true c67
                          clear c67
                          replace H := Option.bind_eq_some_iff.mp H
                          obtain ⟨⟨t249, t250⟩, A680, H⟩ := H
                          replace H : ((gleberef1_Date.f k2 ((rd_T37 y244 x165_2).f0) ((rd_T37 y244 x165_2).f1)).bind fun bt251 => (if t249 = bt251.1 then (if (t250 != bt251.2) = true then (none) else (glebelaw6_DateTells.l1 k2 l0 a3 a4 a5 y244 (y244.length : Int) (wrap64 (x165_2 + 1)))) else (none))) = some r := H
                          have A68 := Aside0.mk A680
                          clear A680
                          replace H := Option.bind_eq_some_iff.mp H
                          obtain ⟨⟨t251, t252⟩, A690, H⟩ := H
                          replace H : (if t249 = t251 then (if (t250 != t252) = true then (none) else (glebelaw6_DateTells.l1 k2 l0 a3 a4 a5 y244 (y244.length : Int) (wrap64 (x165_2 + 1)))) else (none)) = some r := H
                          have A69 := Aside0.mk A690
                          clear A690
                          by_cases c70 : t249 = t251
                          ·rw [if_pos c70] at H
                           have c70b0 : (t249 == t251) = true := beq_iff_eq.mpr c70
                           have c70b1 : (t249 != t251) = false := bne_eq_false_iff_eq.mpr c70
                           clear c70
                           by_cases c71 : (t250 != t252) = true
                           ·rw [if_pos c71] at H
                            exact absurd H (by simp)
                           ·rw [if_neg c71] at H
                            have c71b0 : (t250 != t252) = false := by simpa using c71
                            (try (have c71b1 : decide (t250 = t252) = true := by simpa using c71))
                            (try (have c71b2 : (t250 == t252) = true := by simpa using c71))
                            clear c71
                            have H' := Aside0.mk H
                            clear H
                            have p247 : 0 ≤ (x165_2 : Int) := of_decide_eq_true (by first | (with_reducible assumption) | assumption)
                            have q247 : x165_2 < (y244.length : Int) := of_decide_eq_true (by first | (with_reducible assumption) | assumption)
                            obtain ⟨ad247, e247, hx247_0, hx247_1⟩ := at_T37 (Kd.R_reads' HO_163.out).2.2 x165_2 p247 q247
                            cases e247
                            replace p247 := eq_true p247
                            replace q247 := eq_true q247
                            go_wp2_with (first | ((with_reducible refine gate_dst (N := 26) rfl ?_); refine box_event ?hg (N := 26) ?hd (cs := #[.string (⟨#[]⟩ : ByteArray), .string (⟨#[]⟩ : ByteArray)]) (t := 37) ?hr ?_; (case hd => rfl); (case hg => rfl); (case hr => first | (go_simp; done) | (go_simp; rfl)); intro gb248 hg w72 hbox hb; have n0_ := Aside0.mk (Kd.R_below (Kd.R_elderB (by (with_reducible repeat (first | apply Kd.R_alloc | apply Kd.R_drewN | apply Kd.R_drew)); exact HO_163.out) gb248 (Nat.le_of_eq hg.symm)) hb); have n1_ := Aside0.mk (below_step (by repeat (first | (with_reducible first | exact HB.out | apply below_alloc | apply pw_below_drewN | apply below_drew1) | exact HB.out)) hb); have n2_ := Aside0.mk (hbox); have n3_ := Aside0.mk ((by rw [hg]; exact (below_size (by repeat (first | (with_reducible first | exact HB.out | apply below_alloc | apply pw_below_drewN | apply below_drew1) | exact HB.out))) : w.heap.size ≤ gb248)); have n4_ := Aside0.mk ((by rw [hg]; exact (below_size (by repeat (first | (with_reducible first | exact HB.out | apply below_alloc | apply pw_below_drewN | apply below_drew1) | exact HB.out))) : w.heap.size ≤ gb248)); clear HO_163; clear HB; have HO_163 := n0_; have HB := n1_; have BK248 := n2_; have GW248 := n3_; have GE248 := n4_; clear n0_ n1_ n2_ n3_ n4_; clear hb hbox hg; have hcz73_0 : w72.cell? ⟨gb248, 0, none⟩ = some (.string (⟨#[]⟩ : ByteArray)) := (blk_cell BK248.out 0).trans rfl; have hcz73_1 : w72.cell? ⟨gb248, 1, none⟩ = some (.string (⟨#[]⟩ : ByteArray)) := (blk_cell BK248.out 1).trans rfl; have hfz73_0 := blk_frozen BK248.out 0; have hfz73_1 := blk_frozen BK248.out 1) | ((with_reducible refine gate_callee (f := 15) rfl ?_); refine goesL_ (some 174) rfl rfl Tryd.func15 (by kernel_rfl) rfl #[.string ((rd_T37 y244 x165_2).f0), .string ((rd_T37 y244 x165_2).f1)] rfl (by (try simp only [List.map_toArray, List.map_cons, List.map_nil]); first | done | rfl | (simp only [List.length_drop, List.length_take]; rfl)) ?_; (with_reducible refine (date_Parse.calls k2 ((rd_T37 y244 x165_2).f0) ((rd_T37 y244 x165_2).f1) t249 t250 _ A68.out).mono ?_); rintro e w74 ⟨rfl, hb⟩; refine ⟨_, rfl, ?_⟩; have n0_ := Aside0.mk (Kd.R_below (by (with_reducible repeat (first | apply Kd.R_alloc | apply Kd.R_drewN | apply Kd.R_drew)); exact (Kd.R_mono (Kd.R_far (p := ⟨gb248, 1, none⟩) (Kd.R_far (p := ⟨gb248, 0, none⟩) (Kd.R_mono HO_163.out (fun k_ hk => (⟨hk, hk.2⟩ : _ ∧ k_ ≠ gb248))) (fun _ hk => hk.2) (.string ((rd_T37 y244 x165_2).f0))) (fun _ hk => hk.2) (.string ((rd_T37 y244 x165_2).f1))) (fun _ h_ => h_.1))) hb); have n1_ := Aside0.mk (blk_below (g := gb248) (o := .cells #[.string ((rd_T37 y244 x165_2).f0), .string ((rd_T37 y244 x165_2).f1)] 37 (0, 0)) (by (with_reducible repeat (first | refine blk_drewN ?_ _ | refine blk_drew ?_ | refine blk_alloc ?_ _)); refine blk_put (cs := #[.string ((rd_T37 y244 x165_2).f0), .string (⟨#[]⟩ : ByteArray)]) ?_ 1 _ rfl; (with_reducible repeat (first | refine blk_drewN ?_ _ | refine blk_drew ?_ | refine blk_alloc ?_ _)); refine blk_put (cs := #[.string (⟨#[]⟩ : ByteArray), .string (⟨#[]⟩ : ByteArray)]) ?_ 0 _ rfl; (with_reducible repeat (first | refine blk_drewN ?_ _ | refine blk_drew ?_ | refine blk_alloc ?_ _)); exact BK248.out) hb); have n2_ := Aside0.mk (below_step (by repeat (first | (with_reducible first | exact HB.out | apply below_alloc | apply pw_below_drewN | apply below_drew1 | refine below_set ?_ GE248.out) | exact HB.out)) hb); clear HO_163; clear BK248; clear HB; have HO_163 := n0_; have BK248 := n1_; have HB := n2_; clear n0_ n1_ n2_; (try clear hb); (try clear hb2); (try clear hk); (try clear hi); have hcz75_0 : w74.cell? ⟨gb248, 0, none⟩ = some (.string ((rd_T37 y244 x165_2).f0)) := (blk_cell BK248.out 0).trans rfl; have hcz75_1 : w74.cell? ⟨gb248, 1, none⟩ = some (.string ((rd_T37 y244 x165_2).f1)) := (blk_cell BK248.out 1).trans rfl; have hfz75_0 := blk_frozen BK248.out 0; have hfz75_1 := blk_frozen BK248.out 1) | ((with_reducible refine gate_callee (f := 23) rfl ?_); refine goesL_ (some 182) rfl rfl Tryd.func23 (by kernel_rfl) rfl #[.string ((rd_T37 y244 x165_2).f0), .string ((rd_T37 y244 x165_2).f1)] rfl (by (try simp only [List.map_toArray, List.map_cons, List.map_nil]); first | done | rfl | (simp only [List.length_drop, List.length_take]; rfl)) ?_; (with_reducible refine (gleberef1_Date.calls k2 ((rd_T37 y244 x165_2).f0) ((rd_T37 y244 x165_2).f1) t251 t252 _ A69.out).mono ?_); rintro e w76 ⟨rfl, hb⟩; refine ⟨_, rfl, ?_⟩; have n0_ := Aside0.mk (Kd.R_below (by (with_reducible repeat (first | apply Kd.R_alloc | apply Kd.R_drewN | apply Kd.R_drew)); exact HO_163.out) hb); have n1_ := Aside0.mk (blk_below (g := gb248) (o := .cells #[.string ((rd_T37 y244 x165_2).f0), .string ((rd_T37 y244 x165_2).f1)] 37 (0, 0)) (by (with_reducible repeat (first | refine blk_drewN ?_ _ | refine blk_drew ?_ | refine blk_alloc ?_ _)); exact BK248.out) hb); have n2_ := Aside0.mk (below_step (by repeat (first | (with_reducible first | exact HB.out | apply below_alloc | apply pw_below_drewN | apply below_drew1 | refine below_set ?_ GE248.out) | exact HB.out)) hb); clear HO_163; clear BK248; clear HB; have HO_163 := n0_; have BK248 := n1_; have HB := n2_; clear n0_ n1_ n2_; (try clear hb); (try clear hb2); (try clear hk); (try clear hi)))
                            go_roundg k2
                            case measure => have := HK1.out; have := HK2.out; omega
                            case rel => exact ⟨(wrap64 (x165_2 + 1)), (by first | rfl | (simp only [i64_w]; done) | (simp; done) | (simp [*]; done)), H', ⟨by have := HK1.out; have := HK2.out; omega⟩, ⟨by (with_reducible repeat (first | apply Kd.R_alloc | apply Kd.R_drewN | apply Kd.R_drew)); exact Kd.R_mono HO_163.out (fun _ hk => trivial)⟩, ⟨by repeat (first | (with_reducible first | exact HB.out | apply below_alloc | apply pw_below_drewN | apply below_drew1 | refine below_set ?_ GE248.out) | exact HB.out)⟩⟩
                          ·rw [if_neg c70] at H
                           exact absurd H (by simp)
                         ·rw [if_neg c67] at H
                          exact absurd H (by simp)
                        ·rw [if_neg c66] at H
                         exact absurd H (by simp)
                       ·rw [if_neg c65] at H
                        have c65b0 : decide (x165_2 < (y244.length : Int)) = false := decide_eq_false c65
                        clear c65
                        replace H := Option.bind_eq_some_iff.mp H
                        obtain ⟨t253, A770, H⟩ := H
                        replace H : (if 1 + t253.size ≤ 9223372036854775807 then (if t253.size + 1 ≤ 9223372036854775807 then ((some (([a3] : List Int) : List Int)).bind fun y254 => (if t253.size + (strOfNums y254).size ≤ 9223372036854775807 then (if 1 ≤ (t253.size : Int) then ((some (([strOfNums l0, t253, (⟨#[48]⟩ : ByteArray) ++ t253, t253 ++ (⟨#[48]⟩ : ByteArray), t253 ++ (strOfNums y254), t253.extract 1 t253.size] : List ByteArray) : List ByteArray)).bind fun y257 => (glebelaw6_DateTells.l2 k2 a4 a5 t253 y257 (y257.length : Int) 0)) else (none)) else (none))) else (none)) else (none)) = some r := H
                        have A77 := Aside0.mk A770
                        clear A770
                        by_cases c78 : 1 + t253.size ≤ 9223372036854775807
                        ·rw [if_pos c78] at H
                         have c78b0 := eq_true c78
                         have c78b1 : decide (1 + t253.size ≤ 9223372036854775807) = true := decide_eq_true c78
                         try have c78b2 : (9223372036854775807 < 1 + t253.size) = False := eq_false (Nat.not_lt.2 c78)
                         by_cases c79 : t253.size + 1 ≤ 9223372036854775807
                         ·rw [if_pos c79] at H
                          have c79b0 := eq_true c79
                          have c79b1 : decide (t253.size + 1 ≤ 9223372036854775807) = true := decide_eq_true c79
                          try have c79b2 : (9223372036854775807 < t253.size + 1) = False := eq_false (Nat.not_lt.2 c79)
                          obtain ⟨y254, hy254⟩ : ∃ y_ : List Int, y_ = (([a3] : List Int)) := ⟨_, rfl⟩
                          replace H : (if t253.size + (strOfNums y254).size ≤ 9223372036854775807 then (if 1 ≤ (t253.size : Int) then ((some (([strOfNums l0, t253, (⟨#[48]⟩ : ByteArray) ++ t253, t253 ++ (⟨#[48]⟩ : ByteArray), t253 ++ (strOfNums y254), t253.extract 1 t253.size] : List ByteArray) : List ByteArray)).bind fun y257 => (glebelaw6_DateTells.l2 k2 a4 a5 t253 y257 (y257.length : Int) 0)) else (none)) else (none)) = some r := by first | (rw [hy254]; with_reducible exact H) | (have H2_ := (Option.bind_some _ _).symm.trans H; rw [hy254]; with_reducible exact H2_) | (have H2_ := (Option.bind_some _ _).symm.trans H; with_reducible exact H2_) | with_reducible exact H | (rw [hy254]; exact H) | exact H
                          have Ny254 := Aside0.mk hy254
                          clear hy254
                          by_cases c80 : t253.size + (strOfNums y254).size ≤ 9223372036854775807
                          ·rw [if_pos c80] at H
                           have c80b0 := eq_true c80
                           have c80b1 : decide (t253.size + (strOfNums y254).size ≤ 9223372036854775807) = true := decide_eq_true c80
                           try have c80b2 : (9223372036854775807 < t253.size + (strOfNums y254).size) = False := eq_false (Nat.not_lt.2 c80)
                           by_cases c81 : 1 ≤ (t253.size : Int)
                           ·rw [if_pos c81] at H
                            have c81b0 := eq_true c81
                            have c81b1 : decide (1 ≤ (t253.size : Int)) = true := decide_eq_true c81
                            clear c81
                            obtain ⟨y257, hy257⟩ : ∃ y_ : List ByteArray, y_ = (([strOfNums l0, t253, (⟨#[48]⟩ : ByteArray) ++ t253, t253 ++ (⟨#[48]⟩ : ByteArray), t253 ++ (strOfNums y254), t253.extract 1 t253.size] : List ByteArray)) := ⟨_, rfl⟩
                            replace H : (glebelaw6_DateTells.l2 k2 a4 a5 t253 y257 (y257.length : Int) 0) = some r := by first | (rw [hy257]; with_reducible exact H) | (have H2_ := (Option.bind_some _ _).symm.trans H; rw [hy257]; with_reducible exact H2_) | (have H2_ := (Option.bind_some _ _).symm.trans H; with_reducible exact H2_) | with_reducible exact H | (rw [hy257]; exact H) | exact H
                            have Ny257 := Aside0.mk hy257
                            clear hy257
                            have H' := Aside0.mk H
                            clear H
                            try go_wp2_with (first | ((with_reducible refine gate_callee (f := 24) rfl ?_); refine goesL_ (some 195) rfl rfl Tryd.func24 (by kernel_rfl) rfl #[.int .u64 a4] rfl (by (try simp only [List.map_toArray, List.map_cons, List.map_nil]); first | done | rfl | (simp only [List.length_drop, List.length_take]; rfl)) ?_; (with_reducible refine (gleberef1_Text.calls k2 a4 t253 _ A77.out).mono ?_); rintro e w82 ⟨rfl, hb⟩; refine ⟨_, rfl, ?_⟩; have n0_ := Aside0.mk (Kd.R_below (by (with_reducible repeat (first | apply Kd.R_alloc | apply Kd.R_drewN | apply Kd.R_drew)); exact HO_163.out) hb); have n1_ := Aside0.mk (below_step (by repeat (first | (with_reducible first | exact HB.out | apply below_alloc | apply pw_below_drewN | apply below_drew1) | exact HB.out)) hb); clear HO_163; clear HB; have HO_163 := n0_; have HB := n1_; clear n0_ n1_; (try clear hb); (try clear hb2); (try clear hk); (try clear hi)))
                            have n0_ := Aside0.mk (Kd.R_drew HO_163.out)
                            have n1_ := Aside0.mk (below_drew1 HB.out)
                            clear HO_163
                            clear HB
                            have HO_163 := n0_
                            have HB := n1_
                            clear n0_ n1_
                            refine start_ (n := 17) (S := fun w' => (Go.convert 35 9 (.slice A0 l0.length c0)).run Tryd.prog w' = .ok (.string (strOfNums l0)) w') (ds := []) #[false, false, false, false, false, false, false, false, false, false, false, false, false, false, false, false, false] (by kernel_rfl) rfl rfl ((Kd.C_string (P := Tryd.prog) (A := A0) (c := c0) Tryd.underlying35 Tryd.underlying5 Tryd.underlying9 (Kd.C_below HR0.out HB.out))) (fun hHeld => ?_); refine with_tabW glebelaw6_DateTells.tab23 glebelaw6_DateTells.bits23 (fun HT_ HW_ => ?_)
                            generalize w82.drew = w83 at HO_163 HB hHeld ⊢
                            refine pure_ (i := 0) (N := some 196) (v := ?_) (a' := ?_) #[true, false, false, false, false, false, false, false, false, false, false, false, false, false, false, false, false] rfl rfl (any_of HT_.out (by kernel_rfl)) (fun _ _ _ h => h) (Or.inl ⟨by rfl, ?_⟩) ?_ ?_
                            rotate_left
                            ·intro w'
                             go_simp
                             with_reducible rfl
                            rotate_left
                            ·simp only [Act.put, List.setIfInBounds_toArray, List.set_cons_zero, List.set_cons_succ, i64_w, i32_w]
                             rfl
                            refine pure_ (i := 2) (N := some 198) (v := ?_) (a' := ?_) #[true, false, true, false, false, false, false, false, false, false, false, false, false, false, false, false, false] rfl rfl (any_of HT_.out (by kernel_rfl)) (fun _ _ _ h => h) (Or.inl ⟨by rfl, ?_⟩) ?_ ?_
                            rotate_left
                            ·intro w'
                             go_simp
                             with_reducible rfl
                            rotate_left
                            ·simp only [Act.put, List.setIfInBounds_toArray, List.set_cons_zero, List.set_cons_succ, i64_w, i32_w]
                             rfl
                            refine pure_ (i := 3) (N := some 199) (v := ?_) (a' := ?_) #[true, false, true, true, false, false, false, false, false, false, false, false, false, false, false, false, false] rfl rfl (any_of HT_.out (by kernel_rfl)) (fun _ _ _ h => h) (Or.inl ⟨by rfl, ?_⟩) ?_ ?_
                            rotate_left
                            ·intro w'
                             go_simp
                             with_reducible rfl
                            rotate_left
                            ·simp only [Act.put, List.setIfInBounds_toArray, List.set_cons_zero, List.set_cons_succ, i64_w, i32_w]
                             rfl
                            refine pure_ (i := 4) (N := some 200) (v := ?_) (a' := ?_) #[true, false, true, true, true, false, false, false, false, false, false, false, false, false, false, false, false] rfl rfl (any_of HT_.out (by kernel_rfl)) (fun _ _ _ h => h) (Or.inl ⟨by rfl, ?_⟩) ?_ ?_
                            rotate_left
                            ·intro w'
                             go_simp
                             with_reducible rfl
                            rotate_left
                            ·simp only [Act.put, List.setIfInBounds_toArray, List.set_cons_zero, List.set_cons_succ, i64_w, i32_w]
                             rfl
                            refine pure_ (i := 5) (N := some 201) (v := ?_) (a' := ?_) #[true, false, true, true, true, true, false, false, false, false, false, false, false, false, false, false, false] rfl rfl (any_of HT_.out (by kernel_rfl)) (fun _ _ _ h => h) (Or.inl ⟨by rfl, ?_⟩) ?_ ?_
                            rotate_left
                            ·intro w'
                             go_simp
                             with_reducible rfl
                            rotate_left
                            ·simp only [Act.put, List.setIfInBounds_toArray, List.set_cons_zero, List.set_cons_succ, i64_w, i32_w]
                             rfl
                            refine pure_ (i := 6) (N := some 202) (v := ?_) (a' := ?_) #[true, false, true, true, true, true, true, false, false, false, false, false, false, false, false, false, false] rfl rfl (any_of HT_.out (by kernel_rfl)) (fun _ _ _ h => h) (Or.inl ⟨by rfl, ?_⟩) ?_ ?_
                            rotate_left
                            ·intro w'
                             go_simp
                             with_reducible rfl
                            rotate_left
                            ·simp only [Act.put, List.setIfInBounds_toArray, List.set_cons_zero, List.set_cons_succ, i64_w, i32_w]
                             rfl
                            refine pure_ (i := 7) (N := some 203) (v := ?_) (a' := ?_) #[true, false, true, true, true, true, true, true, false, false, false, false, false, false, false, false, false] rfl rfl (any_of HT_.out (by kernel_rfl)) (fun _ _ _ h => h) (Or.inl ⟨by rfl, ?_⟩) ?_ ?_
                            rotate_left
                            ·intro w'
                             go_simp
                             with_reducible rfl
                            rotate_left
                            ·simp only [Act.put, List.setIfInBounds_toArray, List.set_cons_zero, List.set_cons_succ, i64_w, i32_w]
                             rfl
                            refine pure_ (i := 8) (N := some 204) (v := ?_) (a' := ?_) #[true, false, true, true, true, true, true, true, true, false, false, false, false, false, false, false, false] rfl rfl (any_of HT_.out (by kernel_rfl)) (fun _ _ _ h => h) (Or.inl ⟨by rfl, ?_⟩) ?_ ?_
                            rotate_left
                            ·intro w'
                             go_simp
                             with_reducible rfl
                            rotate_left
                            ·simp only [Act.put, List.setIfInBounds_toArray, List.set_cons_zero, List.set_cons_succ, i64_w, i32_w]
                             rfl
                            refine pure_ (i := 12) (N := some 208) (v := ?_) (a' := ?_) #[true, false, true, true, true, true, true, true, true, false, false, false, true, false, false, false, false] rfl rfl (any_of HT_.out (by kernel_rfl)) (fun _ _ _ h => h) (Or.inl ⟨by rfl, ?_⟩) ?_ ?_
                            rotate_left
                            ·intro w'
                             go_simp
                             with_reducible rfl
                            rotate_left
                            ·simp only [Act.put, List.setIfInBounds_toArray, List.set_cons_zero, List.set_cons_succ, i64_w, i32_w]
                             rfl
                            refine pure_ (i := 13) (N := some 209) (v := ?_) (a' := ?_) #[true, false, true, true, true, true, true, true, true, false, false, false, true, true, false, false, false] rfl rfl (any_of HT_.out (by kernel_rfl)) (fun _ _ _ h => h) (Or.inl ⟨by rfl, ?_⟩) ?_ ?_
                            rotate_left
                            ·intro w'
                             go_simp
                             with_reducible rfl
                            rotate_left
                            ·simp only [Act.put, List.setIfInBounds_toArray, List.set_cons_zero, List.set_cons_succ, i64_w, i32_w]
                             rfl
                            refine pure_ (i := 16) (N := some 212) (v := ?_) (a' := ?_) #[true, false, true, true, true, true, true, true, true, false, false, false, true, true, false, false, true] rfl rfl (any_of HT_.out (by kernel_rfl)) (fun _ _ _ h => h) (Or.inl ⟨by rfl, ?_⟩) ?_ ?_
                            rotate_left
                            ·intro w'
                             go_simp
                             with_reducible rfl
                            rotate_left
                            ·simp only [Act.put, List.setIfInBounds_toArray, List.set_cons_zero, List.set_cons_succ, i64_w, i32_w]
                             rfl
                            refine take_ (i := 1) (N := some 197) (v := ?_) (a' := ?_) #[true, true, true, true, true, true, true, true, true, false, false, false, true, true, false, false, true] rfl rfl (take_ofW HT_.out HW_.out (by kernel_rfl)) (fun _ _ _ h => h) (Or.inl ⟨by rfl, ?_⟩) hHeld ?_ ?_
                            rotate_left
                            ·intro w' s0
                             go_simp
                             with_reducible rfl
                            rotate_left
                            ·simp only [Act.put, List.setIfInBounds_toArray, List.set_cons_zero, List.set_cons_succ, i64_w, i32_w]
                             rfl
                            refine one_ (i := 9) (N := some 205) #[true, true, true, true, true, true, true, true, true, true, false, false, true, true, false, false, true] rfl rfl (one_of HT_.out (by kernel_rfl)) (by decide) (fun K hK => ?_)
                            refine Kd.R_lit_step (Kd.int .u8) _ 5 ?hg (N := 205) ?hd (xs := ([a3] : List Int)) (inner := [.int .u8 a3]) (ok := fun _ => True) (okp := fun _ => True) ?hr ?hp (fun _ hk => hk) trivial (Below.refl _ _) (Nat.le_refl _) (by simp) ?_; (case hd => rfl); (case hg => rfl); (case hr => first | (go_simp; done) | (go_simp; rfl)); (case hp => exact (Reps.one (show Kd.M (Kd.int .u8) _ _ _ a3 [.int .u8 a3] from rfl) (Reps.none _ _)))
                            intro v255 w84 ho85 hb hg_ hnew_
                            clear hg_ hnew_
                            (first | rw [← Ny254.out] at ho85 | (simp only [Int.reduceToNat] at ho85; rw [← Ny254.out] at ho85))
                            have n0_ := Aside0.mk (Kd.R_below (by (with_reducible repeat (first | apply Kd.R_alloc | apply Kd.R_drewN | apply Kd.R_drew)); exact HO_163.out) hb)
                            have n1_ := Aside0.mk (Kd.R_lower ho85 (below_size (by repeat (first | (with_reducible first | exact HB.out | apply below_alloc | apply pw_below_drewN | apply below_drew1) | exact HB.out))))
                            have n2_ := Aside0.mk (below_step (by repeat (first | (with_reducible first | exact HB.out | apply below_alloc | apply pw_below_drewN | apply below_drew1) | exact HB.out)) hb)
                            clear HO_163
                            clear HB
                            have HO_163 := n0_
                            have HO256 := n1_
                            have HB := n2_
                            clear n0_ n1_ n2_
                            clear hb ho85
                            refine hK.out _ _ ((Kd.C_string (P := Tryd.prog) (A := A0) (c := c0) Tryd.underlying35 Tryd.underlying5 Tryd.underlying9 (Kd.C_below HR0.out HB.out))) (fun hHeld => ?_)
                            clear hK K
                            refine norm_ (a' := ?_) ?_ ?_
                            rotate_left
                            ·show Act.put _ (some 205) _ = _
                             simp only [Act.put, List.setIfInBounds_toArray, List.set_cons_zero, List.set_cons_succ, i64_w, i32_w]
                             rfl
                            refine one_ (i := 10) (N := some 206) #[true, true, true, true, true, true, true, true, true, true, true, false, true, true, false, false, true] rfl rfl (one_of HT_.out (by kernel_rfl)) (by decide) (fun K hK => ?_)
                            have hcv86 := own_string (P := Tryd.prog) Tryd.underlying35 Tryd.underlying5 Tryd.underlying9 (Kd.own_of_R HO256.out)
                            refine value_ (w1 := ?_) (v := ?_) (by rfl) rfl ?_ ?_
                            rotate_left 2
                            ·go_simp
                             constructor
                             ·rfl
                             ·rfl
                            clear hcv86
                            refine hK.out _ _ ((Kd.C_string (P := Tryd.prog) (A := A0) (c := c0) Tryd.underlying35 Tryd.underlying5 Tryd.underlying9 (Kd.C_below HR0.out HB.out))) (fun hHeld => ?_)
                            clear hK K
                            refine norm_ (a' := ?_) ?_ ?_
                            rotate_left
                            ·show Act.put _ (some 206) _ = _
                             simp only [Act.put, List.setIfInBounds_toArray, List.set_cons_zero, List.set_cons_succ, i64_w, i32_w]
                             rfl
                            refine pure_ (i := 11) (N := some 207) (v := ?_) (a' := ?_) #[true, true, true, true, true, true, true, true, true, true, true, true, true, true, false, false, true] rfl rfl (any_of HT_.out (by kernel_rfl)) (fun _ _ _ h => h) (Or.inl ⟨by rfl, ?_⟩) ?_ ?_
                            rotate_left
                            ·intro w'
                             go_simp
                             with_reducible rfl
                            rotate_left
                            ·simp only [Act.put, List.setIfInBounds_toArray, List.set_cons_zero, List.set_cons_succ, i64_w, i32_w]
                             rfl
                            refine one_ (i := 14) (N := some 210) #[true, true, true, true, true, true, true, true, true, true, true, true, true, true, true, false, true] rfl rfl (one_of HT_.out (by kernel_rfl)) (by decide) (fun K hK => ?_)
                            refine Kd.R_lit_step Kd.string _ 9 ?hg (N := 210) ?hd (xs := ([strOfNums l0, t253, (⟨#[48]⟩ : ByteArray) ++ t253, t253 ++ (⟨#[48]⟩ : ByteArray), t253 ++ (strOfNums y254), t253.extract 1 t253.size] : List ByteArray)) (inner := [.string (strOfNums l0), .string t253, .string ((⟨#[48]⟩ : ByteArray) ++ t253), .string (t253 ++ (⟨#[48]⟩ : ByteArray)), .string (t253 ++ (strOfNums y254)), .string (t253.extract 1 t253.size)]) (ok := fun _ => True) (okp := fun _ => True) ?hr ?hp (fun _ hk => hk) trivial (Below.refl _ _) (Nat.le_refl _) (by simp) ?_; (case hd => rfl); (case hg => rfl); (case hr => first | (go_simp; done) | (go_simp; rfl)); (case hp => exact (Reps.one (show Kd.M Kd.string _ _ _ (strOfNums l0) [.string (strOfNums l0)] from rfl) (Reps.one (show Kd.M Kd.string _ _ _ t253 [.string t253] from rfl) (Reps.one (show Kd.M Kd.string _ _ _ ((⟨#[48]⟩ : ByteArray) ++ t253) [.string ((⟨#[48]⟩ : ByteArray) ++ t253)] from rfl) (Reps.one (show Kd.M Kd.string _ _ _ (t253 ++ (⟨#[48]⟩ : ByteArray)) [.string (t253 ++ (⟨#[48]⟩ : ByteArray))] from rfl) (Reps.one (show Kd.M Kd.string _ _ _ (t253 ++ (strOfNums y254)) [.string (t253 ++ (strOfNums y254))] from rfl) (Reps.one (show Kd.M Kd.string _ _ _ (t253.extract 1 t253.size) [.string (t253.extract 1 t253.size)] from rfl) (Reps.none _ _))))))))
                            intro v258 w87 ho88 hb hg_ hnew_
                            clear hg_ hnew_
                            (first | rw [← Ny257.out] at ho88 | (simp only [Int.reduceToNat] at ho88; rw [← Ny257.out] at ho88))
                            have n0_ := Aside0.mk (Kd.R_below (by (with_reducible repeat (first | apply Kd.R_alloc | apply Kd.R_drewN | apply Kd.R_drew)); exact HO_163.out) hb)
                            have n1_ := Aside0.mk (Kd.R_below (by (with_reducible repeat (first | apply Kd.R_alloc | apply Kd.R_drewN | apply Kd.R_drew)); exact HO256.out) hb)
                            have n2_ := Aside0.mk (Kd.R_lower ho88 (below_size (by repeat (first | (with_reducible first | exact HB.out | apply below_alloc | apply pw_below_drewN | apply below_drew1) | exact HB.out))))
                            have n3_ := Aside0.mk (below_step (by repeat (first | (with_reducible first | exact HB.out | apply below_alloc | apply pw_below_drewN | apply below_drew1) | exact HB.out)) hb)
                            clear HO_163
                            clear HO256
                            clear HB
                            have HO_163 := n0_
                            have HO256 := n1_
                            have HO259 := n2_
                            have HB := n3_
                            clear n0_ n1_ n2_ n3_
                            clear hb ho88
                            obtain ⟨Ao89, co89, eo89⟩ := Kd.R_slice HO259.out
                            (first | subst eo89 | (injection eo89 with f1_ f2_ f3_; have f4_ := f1_.symm; have f5_ := f3_.symm; clear f1_ f2_ f3_; subst f4_; subst f5_))
                            refine hK.out _ _ ((Kd.C_string (P := Tryd.prog) (A := A0) (c := c0) Tryd.underlying35 Tryd.underlying5 Tryd.underlying9 (Kd.C_below HR0.out HB.out))) (fun hHeld => ?_)
                            clear hK K
                            refine norm_ (a' := ?_) ?_ ?_
                            rotate_left
                            ·show Act.put _ (some 210) _ = _
                             simp only [Act.put, List.setIfInBounds_toArray, List.set_cons_zero, List.set_cons_succ, i64_w, i32_w]
                             rfl
                            refine pure_ (i := 15) (N := some 211) (v := ?_) (a' := ?_) #[true, true, true, true, true, true, true, true, true, true, true, true, true, true, true, true, true] rfl rfl (any_of HT_.out (by kernel_rfl)) (fun _ _ _ h => h) (Or.inl ⟨by rfl, ?_⟩) ?_ ?_
                            rotate_left
                            ·intro w'
                             go_simp
                             with_reducible rfl
                            rotate_left
                            ·simp only [Act.put, List.setIfInBounds_toArray, List.set_cons_zero, List.set_cons_succ, i64_w, i32_w]
                             rfl
                            refine done_ (done_of HT_.out (by kernel_rfl)) ?_
                            try go_wp2
                            go_loopg [212] k2 (fun kq v212 w' => ∃ (x212_3 : Int), v212 = .int .i64 x212_3 ∧ Aside0 (glebelaw6_DateTells.l2 kq a4 a5 t253 y257 (y257.length : Int) x212_3 = some r) ∧ Aside0 (kq ≤ k2) ∧ Aside0 (Kd.R Kd.string 9 w' w.heap.size (fun _ => True) (.slice Ao89 y257.length co89) y257) ∧ Aside0 (Below w.heap.size w w'))
                            case atStart => exact ⟨(0), (by first | rfl | (simp only [i64_w]; done) | (simp; done) | (simp [*]; done)), H', ⟨Nat.le_refl _⟩, ⟨by (with_reducible repeat (first | apply Kd.R_alloc | apply Kd.R_drewN | apply Kd.R_drew)); exact HO259.out⟩, ⟨by repeat (first | (with_reducible first | exact HB.out | apply below_alloc | apply pw_below_drewN | apply below_drew1) | exact HB.out)⟩⟩
                            case round =>
                             clear H'
                             try clear c1
                             try clear c2
                             try clear p2
                             try clear q2
                             try clear hx2
                             try clear c6
                             try clear p6
                             try clear c7
                             try clear c8
                             try clear hcv8
                             try clear c15
                             try clear c23
                             try clear c24
                             try clear p24
                             try clear q24
                             try clear hx24
                             try clear p64
                             try clear c65
                             try clear c65b0
                             try clear c66
                             try clear c66b0
                             try clear c67
                             try clear c67b0
                             try clear c70
                             try clear c70b0
                             try clear c70b1
                             try clear c71
                             try clear c71b0
                             try clear c71b1
                             try clear c71b2
                             try clear c78
                             try clear c78b0
                             try clear c78b1
                             try clear c78b2
                             try clear c79
                             try clear c79b0
                             try clear c79b1
                             try clear c79b2
                             try clear c80
                             try clear c80b0
                             try clear c80b1
                             try clear c80b2
                             try clear c81
                             try clear c81b0
                             try clear c81b1
                             try clear hcv86
                             try clear hcz73_0
                             try clear hcz73_1
                             try clear hcz75_0
                             try clear hcz75_1
                             try clear hfz73_0
                             try clear hfz73_1
                             try clear hfz75_0
                             try clear hfz75_1
                             try clear hx247_0
                             try clear hx247_1
                             try clear p2
                             try clear p247
                             try clear q247
                             obtain ⟨x212_3, rfl, HA, HK3, HO_210, HB⟩ := hrel
                             cases gk with
                             | zero => exact absurd HA.out (by simp [glebelaw6_DateTells.l2])
                             | succ k3 =>
                              have H := HA.out
                              clear HA
                              simp only [glebelaw6_DateTells.l2] at H
                              by_cases c90 : x212_3 < (y257.length : Int)
                              ·rw [if_pos c90] at H
                               have c90b0 : decide (x212_3 < (y257.length : Int)) = true := decide_eq_true c90
                               clear c90
                               by_cases c91 : 0 ≤ x212_3
                               ·rw [if_pos c91] at H
                                have c91b0 : decide (0 ≤ x212_3) = true := decide_eq_true c91
                                clear c91
                                by_cases c92 : x212_3 < (y257.length : Int)
                                ·rw [if_pos c92] at H
                                 have c92b0 : decide (x212_3 < (y257.length : Int)) = true := decide_eq_true c92
                                 clear c92
                                 replace H := Option.bind_eq_some_iff.mp H
                                 obtain ⟨⟨t263, t264⟩, A930, H⟩ := H
                                 replace H : ((gleberef1_Num.f k3 (rdOf ByteArray.empty y257 x212_3) a5).bind fun bt265 => (if t263 = bt265.1 then (if (t264 != bt265.2) = true then (none) else (glebelaw6_DateTells.l2 k3 a4 a5 t253 y257 (y257.length : Int) (wrap64 (x212_3 + 1)))) else (none))) = some r := H
                                 have A93 := Aside0.mk A930
                                 clear A930
                                 replace H := Option.bind_eq_some_iff.mp H
                                 obtain ⟨⟨t265, t266⟩, A940, H⟩ := H
                                 replace H : (if t263 = t265 then (if (t264 != t266) = true then (none) else (glebelaw6_DateTells.l2 k3 a4 a5 t253 y257 (y257.length : Int) (wrap64 (x212_3 + 1)))) else (none)) = some r := H
                                 have A94 := Aside0.mk A940
                                 clear A940
                                 by_cases c95 : t263 = t265
                                 ·rw [if_pos c95] at H
                                  have c95b0 : (t263 == t265) = true := beq_iff_eq.mpr c95
                                  have c95b1 : (t263 != t265) = false := bne_eq_false_iff_eq.mpr c95
                                  clear c95
                                  by_cases c96 : (t264 != t266) = true
                                  ·rw [if_pos c96] at H
                                   exact absurd H (by simp)
                                  ·rw [if_neg c96] at H
                                   have c96b0 : (t264 != t266) = false := by simpa using c96
                                   (try (have c96b1 : decide (t264 = t266) = true := by simpa using c96))
                                   (try (have c96b2 : (t264 == t266) = true := by simpa using c96))
                                   clear c96
                                   have H' := Aside0.mk H
                                   clear H
                                   have p262 : 0 ≤ (x212_3 : Int) := of_decide_eq_true (by first | (with_reducible assumption) | assumption)
                                   have q262 : x212_3 < (y257.length : Int) := of_decide_eq_true (by first | (with_reducible assumption) | assumption)
                                   obtain ⟨ad262, e262, hx262_0⟩ := Kd.at_string (Kd.R_reads' HO_210.out).2.2 x212_3 p262 q262
                                   cases e262
                                   replace p262 := eq_true p262
                                   replace q262 := eq_true q262
                                   go_wp2_with (first | ((with_reducible refine gate_callee (f := 20) rfl ?_); refine goesL_ (some 219) rfl rfl Tryd.func20 (by kernel_rfl) rfl #[.string (rdOf ByteArray.empty y257 x212_3), .int .u64 a5] rfl (by (try simp only [List.map_toArray, List.map_cons, List.map_nil]); first | done | rfl | (simp only [List.length_drop, List.length_take]; rfl)) ?_; (with_reducible refine (date_Num.calls k3 (rdOf ByteArray.empty y257 x212_3) a5 t263 t264 _ A93.out).mono ?_); rintro e w97 ⟨rfl, hb⟩; refine ⟨_, rfl, ?_⟩; have n0_ := Aside0.mk (Kd.R_below (by (with_reducible repeat (first | apply Kd.R_alloc | apply Kd.R_drewN | apply Kd.R_drew)); exact HO_210.out) hb); have n1_ := Aside0.mk (below_step (by repeat (first | (with_reducible first | exact HB.out | apply below_alloc | apply pw_below_drewN | apply below_drew1) | exact HB.out)) hb); clear HO_210; clear HB; have HO_210 := n0_; have HB := n1_; clear n0_ n1_; (try clear hb); (try clear hb2); (try clear hk); (try clear hi)) | ((with_reducible refine gate_callee (f := 25) rfl ?_); refine goesL_ (some 225) rfl rfl Tryd.func25 (by kernel_rfl) rfl #[.string (rdOf ByteArray.empty y257 x212_3), .int .u64 a5] rfl (by (try simp only [List.map_toArray, List.map_cons, List.map_nil]); first | done | rfl | (simp only [List.length_drop, List.length_take]; rfl)) ?_; (with_reducible refine (gleberef1_Num.calls k3 (rdOf ByteArray.empty y257 x212_3) a5 t265 t266 _ A94.out).mono ?_); rintro e w98 ⟨rfl, hb⟩; refine ⟨_, rfl, ?_⟩; have n0_ := Aside0.mk (Kd.R_below (by (with_reducible repeat (first | apply Kd.R_alloc | apply Kd.R_drewN | apply Kd.R_drew)); exact HO_210.out) hb); have n1_ := Aside0.mk (below_step (by repeat (first | (with_reducible first | exact HB.out | apply below_alloc | apply pw_below_drewN | apply below_drew1) | exact HB.out)) hb); clear HO_210; clear HB; have HO_210 := n0_; have HB := n1_; clear n0_ n1_; (try clear hb); (try clear hb2); (try clear hk); (try clear hi)))
                                   go_roundg k3
                                   case measure => have := HK1.out; have := HK2.out; have := HK3.out; omega
                                   case rel => exact ⟨(wrap64 (x212_3 + 1)), (by first | rfl | (simp only [i64_w]; done) | (simp; done) | (simp [*]; done)), H', ⟨by have := HK1.out; have := HK2.out; have := HK3.out; omega⟩, ⟨by (with_reducible repeat (first | apply Kd.R_alloc | apply Kd.R_drewN | apply Kd.R_drew)); exact HO_210.out⟩, ⟨by repeat (first | (with_reducible first | exact HB.out | apply below_alloc | apply pw_below_drewN | apply below_drew1) | exact HB.out)⟩⟩
                                 ·rw [if_neg c95] at H
                                  exact absurd H (by simp)
                                ·rw [if_neg c92] at H
                                 exact absurd H (by simp)
                               ·rw [if_neg c91] at H
                                exact absurd H (by simp)
                              ·rw [if_neg c90] at H
                               have c90b0 : decide (x212_3 < (y257.length : Int)) = false := decide_eq_false c90
                               clear c90
                               replace H := Option.bind_eq_some_iff.mp H
                               obtain ⟨t260, A990, H⟩ := H
                               replace H : (if t260.toList = t253.toList then ((glebelaw6_awake.f k3).bind fun t261 => (some t261)) else (none)) = some r := H
                               have A99 := Aside0.mk A990
                               clear A990
                               by_cases c100 : t260.toList = t253.toList
                               ·rw [if_pos c100] at H
                                have c100b0 : (t260.toList == t253.toList) = true := beq_iff_eq.mpr c100
                                have c100b1 : (t260.toList != t253.toList) = false := bne_eq_false_iff_eq.mpr c100
                                clear c100
                                replace H := Option.bind_eq_some_iff.mp H
                                obtain ⟨t261, A1010, H⟩ := H
                                replace H : (some t261) = some r := H
                                have A101 := Aside0.mk A1010
                                clear A1010
                                obtain rfl := Option.some.inj H
                                go_wp2_with (first | ((with_reducible refine gate_callee (f := 19) rfl ?_); refine goesL_ (some 238) rfl rfl Tryd.func19 (by kernel_rfl) rfl #[.int .u64 a4] rfl (by (try simp only [List.map_toArray, List.map_cons, List.map_nil]); first | done | rfl | (simp only [List.length_drop, List.length_take]; rfl)) ?_; (with_reducible refine (date_Text.calls a4 t260 _ ?side1 A99.out).mono ?_); (case side1 => exact XT.Tabs.below hTab (by repeat (first | (with_reducible first | exact HB.out | apply below_alloc | apply pw_below_drewN | apply below_drew1) | exact HB.out))); rintro e w102 ⟨rfl, hb⟩; refine ⟨_, rfl, ?_⟩; have n0_ := Aside0.mk (Kd.R_below (by (with_reducible repeat (first | apply Kd.R_alloc | apply Kd.R_drewN | apply Kd.R_drew)); exact HO_210.out) hb); have n1_ := Aside0.mk (below_step (by repeat (first | (with_reducible first | exact HB.out | apply below_alloc | apply pw_below_drewN | apply below_drew1) | exact HB.out)) hb); clear HO_210; clear HB; have HO_210 := n0_; have HB := n1_; clear n0_ n1_; (try clear hb); (try clear hb2); (try clear hk); (try clear hi)) | (go_at_call 16; (with_reducible refine (glebelaw6_awake.calls k3  t261 _ ?side1 A101.out).mono ?_); (case side1 => exact XT.Tabs.below hTab (by repeat (first | (with_reducible first | exact HB.out | apply below_alloc | apply pw_below_drewN | apply below_drew1) | exact HB.out))); rintro e w103 ⟨rfl, hb⟩; have n0_ := Aside0.mk (Kd.R_below (by (with_reducible repeat (first | apply Kd.R_alloc | apply Kd.R_drewN | apply Kd.R_drew)); exact HO_210.out) hb); have n1_ := Aside0.mk (below_step (by repeat (first | (with_reducible first | exact HB.out | apply below_alloc | apply pw_below_drewN | apply below_drew1) | exact HB.out)) hb); clear HO_210; clear HB; have HO_210 := n0_; have HB := n1_; clear n0_ n1_; (try clear hb); (try clear hb2); (try clear hk); (try clear hi)))
                                go_ret
                                exact ⟨by first | rfl | (simp [errW_none, errW_some] <;> rfl) | (simp only [← hji22, ← hji26, ← hji30, ← hji34]; first | rfl | (simp [errW_none, errW_some] <;> rfl)) | (simp [*, errW_none, errW_some] <;> rfl), by repeat (first | (with_reducible first | exact HB.out | apply below_alloc | apply pw_below_drewN | apply below_drew1) | exact HB.out)⟩
                               ·rw [if_neg c100] at H
                                exact absurd H (by simp)
                           ·rw [if_neg c81] at H
                            exact absurd H (by simp)
                          ·rw [if_neg c80] at H
                           exact absurd H (by simp)
                         ·rw [if_neg c79] at H
                          exact absurd H (by simp)
                        ·rw [if_neg c78] at H
                         exact absurd H (by simp)
                    ·rw [if_neg c49] at H
                     exact absurd H (by simp)
                   ·rw [if_neg c46] at H
                    exact absurd H (by simp)
                  ·rw [if_neg c43] at H
                   exact absurd H (by simp)
                 ·rw [if_neg c40] at H
                  exact absurd H (by simp)
                ·rw [if_neg c37] at H
                 exact absurd H (by simp)
               ·rw [if_neg c36] at H
                exact absurd H (by simp)
              ·rw [if_neg c35] at H
               exact absurd H (by simp)
             ·rw [if_neg c33] at H
              exact absurd H (by simp)
            ·rw [if_neg c32] at H
             exact absurd H (by simp)
           ·rw [if_neg c31] at H
            exact absurd H (by simp)
          ·rw [if_neg c29] at H
           exact absurd H (by simp)
         ·rw [if_neg c28] at H
          exact absurd H (by simp)
        ·rw [if_neg c27] at H
         exact absurd H (by simp)
       ·rw [if_neg c25] at H
        exact absurd H (by simp)
      ·rw [if_neg c24] at H
       exact absurd H (by simp)
     ·rw [if_neg c23] at H
      exact absurd H (by simp)

/-- THE ONE PURE STATEMENT of glebelaw6_DateTells: yours. -/
def glebelaw6_DateTells.Pure : Prop := ∀ (l0 : List Int) (a1 : Int) (a2 : Int) (a3 : Int) (a4 : Int) (a5 : Int), l0.length ≤ maxLen → l0.length * 1 ≤ 140737488351232 → (∀ x ∈ l0, (Lit.int .u8 x).wf = true) → (Lit.int .u64 a1).wf = true → (Lit.int .i64 a2).wf = true → (Lit.int .u8 a3).wf = true → (Lit.int .u64 a4).wf = true → (Lit.int .u64 a5).wf = true → ∃ k, glebelaw6_DateTells.f k l0 a1 a2 a3 a4 a5 = some true
theorem glebelaw6_DateTells.walk (P : glebelaw6_DateTells.Pure) (a0 : Option Addr) (len0 cap0 : Nat) (z0 : List Int) (a1 : Int) (a2 : Int) (a3 : Int) (a4 : Int) (a5 : Int) (w : World) (w0 : (a0 = none ∧ len0 = 0 ∧ cap0 = 0 ∧ z0 = []) ∨ ∃ x, a0 = some x ∧ len0 ≤ cap0 ∧ cap0 ≤ maxLen ∧ z0.length = cap0 ∧ (∀ i, i < z0.length → w.cell? (x.add i) = some (.int .u8 (z0.getD i 0))) ∧ ∀ n ∈ z0, (Lit.int .u8 n).wf = true) (y0 : len0 * 1 ≤ 140737488351232) (w1 : (Lit.int .u64 a1).wf = true) (w2 : (Lit.int .i64 a2).wf = true) (w3 : (Lit.int .u8 a3).wf = true) (w4 : (Lit.int .u64 a4).wf = true) (w5 : (Lit.int .u64 a5).wf = true) (hTab : XT.Tabs w) :
  Calls Tryd.prog 5 #[.slice a0 len0 cap0, .int .u64 a1, .int .i64 a2, .int .u8 a3, .int .u64 a4, .int .u64 a5] w fun e w' => e = .returned (.bool true) ∧ Below w.heap.size w w' := by
 obtain ⟨l0, rfl, hr0, hm0, hw0, hc0⟩ := ReadsInt.ofRowC w0
 obtain ⟨k, h⟩ := P l0 a1 a2 a3 a4 a5 hm0 y0 hw0 w1 w2 w3 w4 w5
 refine (glebelaw6_DateTells.calls k _ _ l0 a1 a2 a3 a4 a5 true w (Kd.C_of_reads (d := (0 : Int)) (h1 := fun _ => rfl) hr0) hc0 hTab h).mono ?_
 rintro e w' ⟨rfl, hd⟩
 exact ⟨rfl, hd⟩

end Go.Proofs.YtcgchblljhbdaaaDoor.Z
