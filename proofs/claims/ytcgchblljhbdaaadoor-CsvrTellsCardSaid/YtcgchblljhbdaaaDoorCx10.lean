-- Printed by this session's own program (wip/xprint) out of the translation. Lean checks it.
import Derived.Test.YtcgchblljhbdaaaDoorCx0
namespace Go.Proofs.YtcgchblljhbdaaaDoor.C
open Go.Proofs.YtcgchblljhbdaaaDoor
open Go.RowKit Go.Proofs.YtcgchblljhbdaaaDoorW.PrintWords Go.Proofs.YtcgchblljhbdaaaDoorW.PrintLast Go.Proofs.YtcgchblljhbdaaaDoorW.PrintMore
attribute [local go_sem] max2_int min2_int max_two min_two max_three min_three max_four min_four   -- for this text's walks alone
set_option linter.unusedVariables false
set_option linter.unusedSimpArgs false

/-! ### glebelaw9_Text: function 35 -/
def glebelaw9_Text.l0 : Nat → List Int → List ByteArray → List Int → Int → Option (List Int)
 | 0, _, _, _, _ => none
 | k + 1, x0, x3, x4, x5 => if x5 < (x0.length : Int) then (if x5 < 60 then (if 0 ≤ x5 then (if (x3.length : Int) = 0 then (none) else (if 0 ≤ (Int.tmod (Go.bits .and .i64 (rd x0 x5) 65535) (x3.length : Int)) then (if (Int.tmod (Go.bits .and .i64 (rd x0 x5) 65535) (x3.length : Int)) < (x3.length : Int) then (if x4.length + (rdOf ByteArray.empty x3 (Int.tmod (Go.bits .and .i64 (rd x0 x5) 65535) (x3.length : Int))).size < 140737488355328 then (glebelaw9_Text.l0 k x0 x3 (x4 ++ bytesOf (rdOf ByteArray.empty x3 (Int.tmod (Go.bits .and .i64 (rd x0 x5) 65535) (x3.length : Int)))) (wrap64 (x5 + 1))) else (none)) else (none)) else (none))) else (none)) else (some x4)) else (some x4)
def glebelaw9_Text.f (k : Nat) (l0 : List Int) : Option (List Int) := glebelaw9_Text.l0 k l0 (([(⟨#[107, 105, 110, 100]⟩ : ByteArray), (⟨#[118, 97, 108, 117, 101]⟩ : ByteArray), (⟨#[110, 97, 109, 101]⟩ : ByteArray), (⟨#[109, 97, 99]⟩ : ByteArray), (⟨#[112, 114, 101, 102, 105, 120]⟩ : ByteArray), (⟨#[114, 97, 110, 103, 101]⟩ : ByteArray), (⟨#[97, 100, 100, 114, 101, 115, 115]⟩ : ByteArray), (⟨#[49, 48, 46, 48, 46, 48, 46, 48, 47, 50, 52]⟩ : ByteArray), (⟨#[49, 48, 46, 48, 46, 48, 46, 49]⟩ : ByteArray), (⟨#[49, 48, 46, 48, 46, 48, 46, 49, 45, 49, 48, 46, 48, 46, 48, 46, 57]⟩ : ByteArray), (⟨#[50, 48, 48, 49, 58, 100, 98, 56, 58, 58, 47, 54, 52]⟩ : ByteArray), (⟨#[50, 48, 48, 49, 58, 100, 98, 56, 58, 58, 49]⟩ : ByteArray), (⟨#[97]⟩ : ByteArray), (⟨#[98, 45, 49]⟩ : ByteArray), (⟨#[48, 48, 58, 48, 48, 58, 48, 48, 58, 48, 48, 58, 48, 48, 58, 48, 49]⟩ : ByteArray), (⟨#[44]⟩ : ByteArray), (⟨#[44]⟩ : ByteArray), (⟨#[44]⟩ : ByteArray), (⟨#[10]⟩ : ByteArray), (⟨#[13, 10]⟩ : ByteArray), (⟨#[13]⟩ : ByteArray), (⟨#[34]⟩ : ByteArray), (⟨#[34, 34]⟩ : ByteArray), (⟨#[34, 97, 44, 98, 34]⟩ : ByteArray), (⟨#[32]⟩ : ByteArray), (⟨#[195, 169]⟩ : ByteArray), (⟨#[107, 105, 110, 100, 44, 118, 97, 108, 117, 101, 44, 110, 97, 109, 101, 44, 109, 97, 99, 10]⟩ : ByteArray), (⟨#[112, 114, 101, 102, 105, 120, 44, 49, 48, 46, 48, 46, 48, 46, 48, 47, 50, 52, 44, 44, 10]⟩ : ByteArray), (⟨#[114, 97, 110, 103, 101, 44, 49, 48, 46, 48, 46, 48, 46, 49, 45, 49, 48, 46, 48, 46, 48, 46, 57, 44, 44, 10]⟩ : ByteArray), (⟨#[97, 100, 100, 114, 101, 115, 115, 44, 49, 48, 46, 48, 46, 48, 46, 53, 44, 104, 44, 48, 48, 58, 48, 48, 58, 48, 48, 58, 48, 48, 58, 48, 48, 58, 48, 53, 10]⟩ : ByteArray)] : List ByteArray)) ([] : List Int) 0
theorem glebelaw9_Text.mono_l : ∀ k, (∀ y0 y1 y2 y3, LeO (glebelaw9_Text.l0 k y0 y1 y2 y3) (glebelaw9_Text.l0 (k + 1) y0 y1 y2 y3))
 | 0 => fun _ _ _ _ r h => by simp [glebelaw9_Text.l0] at h
 | k + 1 => by
  have ih0 := glebelaw9_Text.mono_l k
  ·intro y0 y1 y2 y3
   unfold glebelaw9_Text.l0
   repeat' first
   | (with_reducible first | exact ih0 _ _ _ _ | exact LeO.refl _ | exact LeO.none _ | refine LeO.ite ?_ ?_ | refine LeO.bind ?_ (fun _ => ?_))
   | exact ih0 _ _ _ _
   | exact LeO.none _
   | refine LeO.ite ?_ ?_
   | refine LeO.bind ?_ (fun _ => ?_)
theorem glebelaw9_Text.mono : ∀ a0 k, LeO (glebelaw9_Text.f k a0) (glebelaw9_Text.f (k + 1) a0) := by
 intro a0 k
 have ih0 := glebelaw9_Text.mono_l k
 unfold glebelaw9_Text.f
 repeat' first
   | (with_reducible first | exact ih0 _ _ _ _ | exact LeO.refl _ | exact LeO.none _ | refine LeO.ite ?_ ?_ | refine LeO.bind ?_ (fun _ => ?_))
   | exact ih0 _ _ _ _
   | exact LeO.none _
   | refine LeO.ite ?_ ?_
   | refine LeO.bind ?_ (fun _ => ?_)
set_option maxHeartbeats 8000000 in
set_option maxRecDepth 100000 in
theorem glebelaw9_Text.calls (k : Nat) (A0 : Option Addr) (c0 : Nat) (l0 : List Int) (r : List Int) (w : World) (hr0 : Kd.C (Kd.int .i64) w A0 l0.length l0) (hc0 : l0.length ≤ c0) (h : glebelaw9_Text.f k l0 = some r) :
  Calls Tryd.prog 35 #[.slice A0 l0.length c0] w fun e w' => ∃ v0_ : Value, e = .returned (v0_) ∧ Kd.R (Kd.int .u8) 5 w' w.heap.size (fun _ => True) v0_ r ∧ Below w.heap.size w w' := by
 have HR0 := Aside0.mk hr0
 have HC0 := Aside0.mk hc0
 clear hr0 hc0
 have HB := Aside0.mk (Below.refl w.heap.size w)
 have H : (glebelaw9_Text.l0 k l0 (([(⟨#[107, 105, 110, 100]⟩ : ByteArray), (⟨#[118, 97, 108, 117, 101]⟩ : ByteArray), (⟨#[110, 97, 109, 101]⟩ : ByteArray), (⟨#[109, 97, 99]⟩ : ByteArray), (⟨#[112, 114, 101, 102, 105, 120]⟩ : ByteArray), (⟨#[114, 97, 110, 103, 101]⟩ : ByteArray), (⟨#[97, 100, 100, 114, 101, 115, 115]⟩ : ByteArray), (⟨#[49, 48, 46, 48, 46, 48, 46, 48, 47, 50, 52]⟩ : ByteArray), (⟨#[49, 48, 46, 48, 46, 48, 46, 49]⟩ : ByteArray), (⟨#[49, 48, 46, 48, 46, 48, 46, 49, 45, 49, 48, 46, 48, 46, 48, 46, 57]⟩ : ByteArray), (⟨#[50, 48, 48, 49, 58, 100, 98, 56, 58, 58, 47, 54, 52]⟩ : ByteArray), (⟨#[50, 48, 48, 49, 58, 100, 98, 56, 58, 58, 49]⟩ : ByteArray), (⟨#[97]⟩ : ByteArray), (⟨#[98, 45, 49]⟩ : ByteArray), (⟨#[48, 48, 58, 48, 48, 58, 48, 48, 58, 48, 48, 58, 48, 48, 58, 48, 49]⟩ : ByteArray), (⟨#[44]⟩ : ByteArray), (⟨#[44]⟩ : ByteArray), (⟨#[44]⟩ : ByteArray), (⟨#[10]⟩ : ByteArray), (⟨#[13, 10]⟩ : ByteArray), (⟨#[13]⟩ : ByteArray), (⟨#[34]⟩ : ByteArray), (⟨#[34, 34]⟩ : ByteArray), (⟨#[34, 97, 44, 98, 34]⟩ : ByteArray), (⟨#[32]⟩ : ByteArray), (⟨#[195, 169]⟩ : ByteArray), (⟨#[107, 105, 110, 100, 44, 118, 97, 108, 117, 101, 44, 110, 97, 109, 101, 44, 109, 97, 99, 10]⟩ : ByteArray), (⟨#[112, 114, 101, 102, 105, 120, 44, 49, 48, 46, 48, 46, 48, 46, 48, 47, 50, 52, 44, 44, 10]⟩ : ByteArray), (⟨#[114, 97, 110, 103, 101, 44, 49, 48, 46, 48, 46, 48, 46, 49, 45, 49, 48, 46, 48, 46, 48, 46, 57, 44, 44, 10]⟩ : ByteArray), (⟨#[97, 100, 100, 114, 101, 115, 115, 44, 49, 48, 46, 48, 46, 48, 46, 53, 44, 104, 44, 48, 48, 58, 48, 48, 58, 48, 48, 58, 48, 48, 58, 48, 48, 58, 48, 53, 10]⟩ : ByteArray)] : List ByteArray)) ([] : List Int) 0) = some r := h
 clear h
 obtain ⟨y314, hy314⟩ : ∃ y_ : List ByteArray, y_ = (([(⟨#[107, 105, 110, 100]⟩ : ByteArray), (⟨#[118, 97, 108, 117, 101]⟩ : ByteArray), (⟨#[110, 97, 109, 101]⟩ : ByteArray), (⟨#[109, 97, 99]⟩ : ByteArray), (⟨#[112, 114, 101, 102, 105, 120]⟩ : ByteArray), (⟨#[114, 97, 110, 103, 101]⟩ : ByteArray), (⟨#[97, 100, 100, 114, 101, 115, 115]⟩ : ByteArray), (⟨#[49, 48, 46, 48, 46, 48, 46, 48, 47, 50, 52]⟩ : ByteArray), (⟨#[49, 48, 46, 48, 46, 48, 46, 49]⟩ : ByteArray), (⟨#[49, 48, 46, 48, 46, 48, 46, 49, 45, 49, 48, 46, 48, 46, 48, 46, 57]⟩ : ByteArray), (⟨#[50, 48, 48, 49, 58, 100, 98, 56, 58, 58, 47, 54, 52]⟩ : ByteArray), (⟨#[50, 48, 48, 49, 58, 100, 98, 56, 58, 58, 49]⟩ : ByteArray), (⟨#[97]⟩ : ByteArray), (⟨#[98, 45, 49]⟩ : ByteArray), (⟨#[48, 48, 58, 48, 48, 58, 48, 48, 58, 48, 48, 58, 48, 48, 58, 48, 49]⟩ : ByteArray), (⟨#[44]⟩ : ByteArray), (⟨#[44]⟩ : ByteArray), (⟨#[44]⟩ : ByteArray), (⟨#[10]⟩ : ByteArray), (⟨#[13, 10]⟩ : ByteArray), (⟨#[13]⟩ : ByteArray), (⟨#[34]⟩ : ByteArray), (⟨#[34, 34]⟩ : ByteArray), (⟨#[34, 97, 44, 98, 34]⟩ : ByteArray), (⟨#[32]⟩ : ByteArray), (⟨#[195, 169]⟩ : ByteArray), (⟨#[107, 105, 110, 100, 44, 118, 97, 108, 117, 101, 44, 110, 97, 109, 101, 44, 109, 97, 99, 10]⟩ : ByteArray), (⟨#[112, 114, 101, 102, 105, 120, 44, 49, 48, 46, 48, 46, 48, 46, 48, 47, 50, 52, 44, 44, 10]⟩ : ByteArray), (⟨#[114, 97, 110, 103, 101, 44, 49, 48, 46, 48, 46, 48, 46, 49, 45, 49, 48, 46, 48, 46, 48, 46, 57, 44, 44, 10]⟩ : ByteArray), (⟨#[97, 100, 100, 114, 101, 115, 115, 44, 49, 48, 46, 48, 46, 48, 46, 53, 44, 104, 44, 48, 48, 58, 48, 48, 58, 48, 48, 58, 48, 48, 58, 48, 48, 58, 48, 53, 10]⟩ : ByteArray)] : List ByteArray)) := ⟨_, rfl⟩
 replace H : (glebelaw9_Text.l0 k l0 y314 ([] : List Int) 0) = some r := by first | (rw [hy314]; with_reducible exact H) | (have H2_ := (Option.bind_some _ _).symm.trans H; rw [hy314]; with_reducible exact H2_) | (have H2_ := (Option.bind_some _ _).symm.trans H; with_reducible exact H2_) | with_reducible exact H | (rw [hy314]; exact H) | exact H
 have Ny314 := Aside0.mk hy314
 clear hy314
 have H' := Aside0.mk H
 clear H
 go_enter Tryd.func35, Tryd.ntmps35
 go_wp2_with (first | ((with_reducible refine gate_dst (N := 6) rfl ?_); refine Kd.R_lit Kd.string _ 9 ?hg (N := 6) ?hd (xs := ([(⟨#[107, 105, 110, 100]⟩ : ByteArray), (⟨#[118, 97, 108, 117, 101]⟩ : ByteArray), (⟨#[110, 97, 109, 101]⟩ : ByteArray), (⟨#[109, 97, 99]⟩ : ByteArray), (⟨#[112, 114, 101, 102, 105, 120]⟩ : ByteArray), (⟨#[114, 97, 110, 103, 101]⟩ : ByteArray), (⟨#[97, 100, 100, 114, 101, 115, 115]⟩ : ByteArray), (⟨#[49, 48, 46, 48, 46, 48, 46, 48, 47, 50, 52]⟩ : ByteArray), (⟨#[49, 48, 46, 48, 46, 48, 46, 49]⟩ : ByteArray), (⟨#[49, 48, 46, 48, 46, 48, 46, 49, 45, 49, 48, 46, 48, 46, 48, 46, 57]⟩ : ByteArray), (⟨#[50, 48, 48, 49, 58, 100, 98, 56, 58, 58, 47, 54, 52]⟩ : ByteArray), (⟨#[50, 48, 48, 49, 58, 100, 98, 56, 58, 58, 49]⟩ : ByteArray), (⟨#[97]⟩ : ByteArray), (⟨#[98, 45, 49]⟩ : ByteArray), (⟨#[48, 48, 58, 48, 48, 58, 48, 48, 58, 48, 48, 58, 48, 48, 58, 48, 49]⟩ : ByteArray), (⟨#[44]⟩ : ByteArray), (⟨#[44]⟩ : ByteArray), (⟨#[44]⟩ : ByteArray), (⟨#[10]⟩ : ByteArray), (⟨#[13, 10]⟩ : ByteArray), (⟨#[13]⟩ : ByteArray), (⟨#[34]⟩ : ByteArray), (⟨#[34, 34]⟩ : ByteArray), (⟨#[34, 97, 44, 98, 34]⟩ : ByteArray), (⟨#[32]⟩ : ByteArray), (⟨#[195, 169]⟩ : ByteArray), (⟨#[107, 105, 110, 100, 44, 118, 97, 108, 117, 101, 44, 110, 97, 109, 101, 44, 109, 97, 99, 10]⟩ : ByteArray), (⟨#[112, 114, 101, 102, 105, 120, 44, 49, 48, 46, 48, 46, 48, 46, 48, 47, 50, 52, 44, 44, 10]⟩ : ByteArray), (⟨#[114, 97, 110, 103, 101, 44, 49, 48, 46, 48, 46, 48, 46, 49, 45, 49, 48, 46, 48, 46, 48, 46, 57, 44, 44, 10]⟩ : ByteArray), (⟨#[97, 100, 100, 114, 101, 115, 115, 44, 49, 48, 46, 48, 46, 48, 46, 53, 44, 104, 44, 48, 48, 58, 48, 48, 58, 48, 48, 58, 48, 48, 58, 48, 48, 58, 48, 53, 10]⟩ : ByteArray)] : List ByteArray)) (inner := [.string (⟨#[107, 105, 110, 100]⟩ : ByteArray), .string (⟨#[118, 97, 108, 117, 101]⟩ : ByteArray), .string (⟨#[110, 97, 109, 101]⟩ : ByteArray), .string (⟨#[109, 97, 99]⟩ : ByteArray), .string (⟨#[112, 114, 101, 102, 105, 120]⟩ : ByteArray), .string (⟨#[114, 97, 110, 103, 101]⟩ : ByteArray), .string (⟨#[97, 100, 100, 114, 101, 115, 115]⟩ : ByteArray), .string (⟨#[49, 48, 46, 48, 46, 48, 46, 48, 47, 50, 52]⟩ : ByteArray), .string (⟨#[49, 48, 46, 48, 46, 48, 46, 49]⟩ : ByteArray), .string (⟨#[49, 48, 46, 48, 46, 48, 46, 49, 45, 49, 48, 46, 48, 46, 48, 46, 57]⟩ : ByteArray), .string (⟨#[50, 48, 48, 49, 58, 100, 98, 56, 58, 58, 47, 54, 52]⟩ : ByteArray), .string (⟨#[50, 48, 48, 49, 58, 100, 98, 56, 58, 58, 49]⟩ : ByteArray), .string (⟨#[97]⟩ : ByteArray), .string (⟨#[98, 45, 49]⟩ : ByteArray), .string (⟨#[48, 48, 58, 48, 48, 58, 48, 48, 58, 48, 48, 58, 48, 48, 58, 48, 49]⟩ : ByteArray), .string (⟨#[44]⟩ : ByteArray), .string (⟨#[44]⟩ : ByteArray), .string (⟨#[44]⟩ : ByteArray), .string (⟨#[10]⟩ : ByteArray), .string (⟨#[13, 10]⟩ : ByteArray), .string (⟨#[13]⟩ : ByteArray), .string (⟨#[34]⟩ : ByteArray), .string (⟨#[34, 34]⟩ : ByteArray), .string (⟨#[34, 97, 44, 98, 34]⟩ : ByteArray), .string (⟨#[32]⟩ : ByteArray), .string (⟨#[195, 169]⟩ : ByteArray), .string (⟨#[107, 105, 110, 100, 44, 118, 97, 108, 117, 101, 44, 110, 97, 109, 101, 44, 109, 97, 99, 10]⟩ : ByteArray), .string (⟨#[112, 114, 101, 102, 105, 120, 44, 49, 48, 46, 48, 46, 48, 46, 48, 47, 50, 52, 44, 44, 10]⟩ : ByteArray), .string (⟨#[114, 97, 110, 103, 101, 44, 49, 48, 46, 48, 46, 48, 46, 49, 45, 49, 48, 46, 48, 46, 48, 46, 57, 44, 44, 10]⟩ : ByteArray), .string (⟨#[97, 100, 100, 114, 101, 115, 115, 44, 49, 48, 46, 48, 46, 48, 46, 53, 44, 104, 44, 48, 48, 58, 48, 48, 58, 48, 48, 58, 48, 48, 58, 48, 48, 58, 48, 53, 10]⟩ : ByteArray)]) (ok := fun _ => True) (okp := fun _ => True) ?hr ?hp (fun _ hk => hk) trivial (Below.refl _ _) (Nat.le_refl _) (by simp) ?_; (case hd => rfl); (case hg => rfl); (case hr => first | (go_simp; done) | (go_simp; rfl)); (case hp => exact (Reps.one (show Kd.M Kd.string _ _ _ (⟨#[107, 105, 110, 100]⟩ : ByteArray) [.string (⟨#[107, 105, 110, 100]⟩ : ByteArray)] from rfl) (Reps.one (show Kd.M Kd.string _ _ _ (⟨#[118, 97, 108, 117, 101]⟩ : ByteArray) [.string (⟨#[118, 97, 108, 117, 101]⟩ : ByteArray)] from rfl) (Reps.one (show Kd.M Kd.string _ _ _ (⟨#[110, 97, 109, 101]⟩ : ByteArray) [.string (⟨#[110, 97, 109, 101]⟩ : ByteArray)] from rfl) (Reps.one (show Kd.M Kd.string _ _ _ (⟨#[109, 97, 99]⟩ : ByteArray) [.string (⟨#[109, 97, 99]⟩ : ByteArray)] from rfl) (Reps.one (show Kd.M Kd.string _ _ _ (⟨#[112, 114, 101, 102, 105, 120]⟩ : ByteArray) [.string (⟨#[112, 114, 101, 102, 105, 120]⟩ : ByteArray)] from rfl) (Reps.one (show Kd.M Kd.string _ _ _ (⟨#[114, 97, 110, 103, 101]⟩ : ByteArray) [.string (⟨#[114, 97, 110, 103, 101]⟩ : ByteArray)] from rfl) (Reps.one (show Kd.M Kd.string _ _ _ (⟨#[97, 100, 100, 114, 101, 115, 115]⟩ : ByteArray) [.string (⟨#[97, 100, 100, 114, 101, 115, 115]⟩ : ByteArray)] from rfl) (Reps.one (show Kd.M Kd.string _ _ _ (⟨#[49, 48, 46, 48, 46, 48, 46, 48, 47, 50, 52]⟩ : ByteArray) [.string (⟨#[49, 48, 46, 48, 46, 48, 46, 48, 47, 50, 52]⟩ : ByteArray)] from rfl) (Reps.one (show Kd.M Kd.string _ _ _ (⟨#[49, 48, 46, 48, 46, 48, 46, 49]⟩ : ByteArray) [.string (⟨#[49, 48, 46, 48, 46, 48, 46, 49]⟩ : ByteArray)] from rfl) (Reps.one (show Kd.M Kd.string _ _ _ (⟨#[49, 48, 46, 48, 46, 48, 46, 49, 45, 49, 48, 46, 48, 46, 48, 46, 57]⟩ : ByteArray) [.string (⟨#[49, 48, 46, 48, 46, 48, 46, 49, 45, 49, 48, 46, 48, 46, 48, 46, 57]⟩ : ByteArray)] from rfl) (Reps.one (show Kd.M Kd.string _ _ _ (⟨#[50, 48, 48, 49, 58, 100, 98, 56, 58, 58, 47, 54, 52]⟩ : ByteArray) [.string (⟨#[50, 48, 48, 49, 58, 100, 98, 56, 58, 58, 47, 54, 52]⟩ : ByteArray)] from rfl) (Reps.one (show Kd.M Kd.string _ _ _ (⟨#[50, 48, 48, 49, 58, 100, 98, 56, 58, 58, 49]⟩ : ByteArray) [.string (⟨#[50, 48, 48, 49, 58, 100, 98, 56, 58, 58, 49]⟩ : ByteArray)] from rfl) (Reps.one (show Kd.M Kd.string _ _ _ (⟨#[97]⟩ : ByteArray) [.string (⟨#[97]⟩ : ByteArray)] from rfl) (Reps.one (show Kd.M Kd.string _ _ _ (⟨#[98, 45, 49]⟩ : ByteArray) [.string (⟨#[98, 45, 49]⟩ : ByteArray)] from rfl) (Reps.one (show Kd.M Kd.string _ _ _ (⟨#[48, 48, 58, 48, 48, 58, 48, 48, 58, 48, 48, 58, 48, 48, 58, 48, 49]⟩ : ByteArray) [.string (⟨#[48, 48, 58, 48, 48, 58, 48, 48, 58, 48, 48, 58, 48, 48, 58, 48, 49]⟩ : ByteArray)] from rfl) (Reps.one (show Kd.M Kd.string _ _ _ (⟨#[44]⟩ : ByteArray) [.string (⟨#[44]⟩ : ByteArray)] from rfl) (Reps.one (show Kd.M Kd.string _ _ _ (⟨#[44]⟩ : ByteArray) [.string (⟨#[44]⟩ : ByteArray)] from rfl) (Reps.one (show Kd.M Kd.string _ _ _ (⟨#[44]⟩ : ByteArray) [.string (⟨#[44]⟩ : ByteArray)] from rfl) (Reps.one (show Kd.M Kd.string _ _ _ (⟨#[10]⟩ : ByteArray) [.string (⟨#[10]⟩ : ByteArray)] from rfl) (Reps.one (show Kd.M Kd.string _ _ _ (⟨#[13, 10]⟩ : ByteArray) [.string (⟨#[13, 10]⟩ : ByteArray)] from rfl) (Reps.one (show Kd.M Kd.string _ _ _ (⟨#[13]⟩ : ByteArray) [.string (⟨#[13]⟩ : ByteArray)] from rfl) (Reps.one (show Kd.M Kd.string _ _ _ (⟨#[34]⟩ : ByteArray) [.string (⟨#[34]⟩ : ByteArray)] from rfl) (Reps.one (show Kd.M Kd.string _ _ _ (⟨#[34, 34]⟩ : ByteArray) [.string (⟨#[34, 34]⟩ : ByteArray)] from rfl) (Reps.one (show Kd.M Kd.string _ _ _ (⟨#[34, 97, 44, 98, 34]⟩ : ByteArray) [.string (⟨#[34, 97, 44, 98, 34]⟩ : ByteArray)] from rfl) (Reps.one (show Kd.M Kd.string _ _ _ (⟨#[32]⟩ : ByteArray) [.string (⟨#[32]⟩ : ByteArray)] from rfl) (Reps.one (show Kd.M Kd.string _ _ _ (⟨#[195, 169]⟩ : ByteArray) [.string (⟨#[195, 169]⟩ : ByteArray)] from rfl) (Reps.one (show Kd.M Kd.string _ _ _ (⟨#[107, 105, 110, 100, 44, 118, 97, 108, 117, 101, 44, 110, 97, 109, 101, 44, 109, 97, 99, 10]⟩ : ByteArray) [.string (⟨#[107, 105, 110, 100, 44, 118, 97, 108, 117, 101, 44, 110, 97, 109, 101, 44, 109, 97, 99, 10]⟩ : ByteArray)] from rfl) (Reps.one (show Kd.M Kd.string _ _ _ (⟨#[112, 114, 101, 102, 105, 120, 44, 49, 48, 46, 48, 46, 48, 46, 48, 47, 50, 52, 44, 44, 10]⟩ : ByteArray) [.string (⟨#[112, 114, 101, 102, 105, 120, 44, 49, 48, 46, 48, 46, 48, 46, 48, 47, 50, 52, 44, 44, 10]⟩ : ByteArray)] from rfl) (Reps.one (show Kd.M Kd.string _ _ _ (⟨#[114, 97, 110, 103, 101, 44, 49, 48, 46, 48, 46, 48, 46, 49, 45, 49, 48, 46, 48, 46, 48, 46, 57, 44, 44, 10]⟩ : ByteArray) [.string (⟨#[114, 97, 110, 103, 101, 44, 49, 48, 46, 48, 46, 48, 46, 49, 45, 49, 48, 46, 48, 46, 48, 46, 57, 44, 44, 10]⟩ : ByteArray)] from rfl) (Reps.one (show Kd.M Kd.string _ _ _ (⟨#[97, 100, 100, 114, 101, 115, 115, 44, 49, 48, 46, 48, 46, 48, 46, 53, 44, 104, 44, 48, 48, 58, 48, 48, 58, 48, 48, 58, 48, 48, 58, 48, 48, 58, 48, 53, 10]⟩ : ByteArray) [.string (⟨#[97, 100, 100, 114, 101, 115, 115, 44, 49, 48, 46, 48, 46, 48, 46, 53, 44, 104, 44, 48, 48, 58, 48, 48, 58, 48, 48, 58, 48, 48, 58, 48, 48, 58, 48, 53, 10]⟩ : ByteArray)] from rfl) (Reps.none _ _)))))))))))))))))))))))))))))))); intro v315 w2 ho3 hb hg_ hnew_; clear hg_ hnew_; (first | rw [← Ny314.out] at ho3 | (simp only [Int.reduceToNat] at ho3; rw [← Ny314.out] at ho3)); have HO316 := Aside0.mk (Kd.R_lower ho3 (below_size (fW HB.out))); replace HB := Aside0.mk (below_step (fW HB.out) hb); clear hb ho3))
 go_loopg [4, 5] k (fun kq v4 v5 w' => ∃ (x4_1 : List Int) (x5_1 : Int), v5 = .int .i64 x5_1 ∧ Aside0 (glebelaw9_Text.l0 kq l0 y314 x4_1 x5_1 = some r) ∧ Aside0 (kq ≤ k) ∧ Aside0 (Kd.R Kd.string 9 w' w.heap.size (fun _ => True) v315 y314) ∧ Aside0 (Kd.R (Kd.int .u8) 5 w' w.heap.size (fun _ => True) v4 x4_1) ∧ Aside0 (Below w.heap.size w w'))
 case atStart => exact ⟨(([] : List Int)), (0), oR, H', ⟨Nat.le_refl _⟩, ⟨fR HO316.out⟩, ⟨by first | exact Kd.R_nil _ _ _ _ _ | exact Kd.N_nil _ _ _ _ _ | exact Kd.V_nil _ _ _ _ _ | exact Kd.Q_nil _ _ _ _ _ | exact Kd.S_nil _ _ _ _ _⟩, ⟨fW HB.out⟩⟩
 case round =>
  clear H'
  obtain ⟨x4_1, x5_1, rfl, HA, HK1, HO_3, HO_4, HB⟩ := hrel
  cases gk with
  | zero => exact absurd HA.out (by simp [glebelaw9_Text.l0])
  | succ k1 =>
   have H := HA.out
   clear HA
   simp only [glebelaw9_Text.l0] at H
   by_cases c4 : x5_1 < (l0.length : Int)
   ·rw [if_pos c4] at H
    have c4b0 := decide_eq_true c4
    clear c4
    by_cases c5 : x5_1 < 60
    ·rw [if_pos c5] at H
     have c5b0 := decide_eq_true c5
     clear c5
     obtain ⟨c6, H⟩ := eT H
     have c6b0 := decide_eq_true c6
     clear c6
     by_cases c7 : (y314.length : Int) = 0
     ·rw [if_pos c7] at H
      exact absurd H (by simp)
     ·rw [if_neg c7] at H
      have c7b0 : ((y314.length : Int) == 0) = false := beq_eq_false_iff_ne.mpr c7
      have c7b1 : ((y314.length : Int) != 0) = true := bne_iff_ne.mpr c7
      have c7b2 : ¬ (y314 = []) := fun h_ => c7 (by rw [h_]; rfl)
      obtain ⟨ji8, hji8⟩ : ∃ j_ : Int, (Int.tmod (Go.bits .and .i64 (rd l0 x5_1) 65535) (y314.length : Int)) = j_ := ⟨_, rfl⟩
      replace H : (if 0 ≤ (ji8) then (if (ji8) < (y314.length : Int) then (if x4_1.length + (rdOf ByteArray.empty y314 (ji8)).size < 140737488355328 then (glebelaw9_Text.l0 k1 l0 y314 (x4_1 ++ bytesOf (rdOf ByteArray.empty y314 (ji8))) (wrap64 (x5_1 + 1))) else (none)) else (none)) else (none)) = some r := by first | (rw [hji8] at H; exact H) | (simp only [hji8] at H ⊢; exact H)
      obtain ⟨c9, H⟩ := eT H
      have c9b0 := decide_eq_true c9
      clear c9
      obtain ⟨c10, H⟩ := eT H
      have c10b0 := decide_eq_true c10
      clear c10
      obtain ⟨c11, H⟩ := eT H
      have LMc11 := Aside0.mk c11
      clear c11
      obtain ⟨y319, hy319⟩ : ∃ y_ : List Int, y_ = (x4_1 ++ bytesOf (rdOf ByteArray.empty y314 (ji8))) := ⟨_, rfl⟩
      replace H : (glebelaw9_Text.l0 k1 l0 y314 y319 (wrap64 (x5_1 + 1))) = some r := by first | (rw [hy319]; with_reducible exact H) | (have H2_ := (Option.bind_some _ _).symm.trans H; rw [hy319]; with_reducible exact H2_) | (have H2_ := (Option.bind_some _ _).symm.trans H; with_reducible exact H2_) | with_reducible exact H | (rw [hy319]; exact H) | exact H
      have Ny319 := Aside0.mk hy319
      clear hy319
      have H' := Aside0.mk H
      clear H
      obtain ⟨ad317, rfl, hx317_0, p317, q317⟩ := aI HB HR0 (x5_1)
      obtain ⟨Ao12, co12, eo12⟩ := Kd.R_slice HO_3.out
      subst eo12
      have p318 : 0 ≤ ((ji8) : Int) := oD
      have q318 : (ji8) < (y314.length : Int) := oD
      obtain ⟨ad318, e318, hx318_0⟩ := Kd.at_string (Kd.R_reads' HO_3.out).2.2 (ji8) p318 q318
      cases e318
      replace p318 := eq_true p318
      replace q318 := eq_true q318
      go_wp2_with (first | (at_builtin; refine print_append_str (w0 := w) w.heap.size rfl (.tmp 17) _ 35 9 5 rfl Tryd.underlying35 Tryd.underlying9 info5 u4 x4_1 (rdOf ByteArray.empty y314 (ji8)) rfl rfl ?aO ?aB ?aS ?aL ?_; (case aB => exact (fW HB.out)); (case aO => exact (Kd.own_of_R (fR HO_4.out))); (case aS => exact (below_size (fW HB.out))); (case aL => have := LMc11.out; omega); intro v320 w13 ho0 hb hg; have ho := Kd.R_of_own (h1 := fun _ => rfl) (ok := fun _ => True) ho0 (fun _ _ => trivial); clear ho0; have hat := True.intro; rw [← Ny319.out] at ho; change Kd.R (Kd.int .u8) 5 w13 w.heap.size (fun _ => True) v320 y319 at ho; replace HO_3 := Aside0.mk (Kd.R_over' (fR HO_3.out) (Kd.R_typed (fR HO_4.out)) (by decide) hg); replace HB := Aside0.mk (hb); have HO321 := Aside0.mk (ho); clear HO_4; clear ho hb hg hat))
      go_roundg k1
      case measure => have := HK1.out; omega
      case rel => exact ⟨(y319), (wrap64 (x5_1 + 1)), oR, H', ⟨by have := HK1.out; omega⟩, ⟨fR HO_3.out⟩, ⟨fR HO321.out⟩, ⟨fW HB.out⟩⟩
    ·rw [if_neg c5] at H
     have c5b0 := decide_eq_false c5
     clear c5
     obtain rfl := Option.some.inj H
     go_wp2
     go_ret
     exact ⟨_, oE, fR HO_4.out, fW HB.out⟩
   ·rw [if_neg c4] at H
    have c4b0 := decide_eq_false c4
    clear c4
    obtain rfl := Option.some.inj H
    go_wp2
    go_ret
    exact ⟨_, oE, fR HO_4.out, fW HB.out⟩

/-! ### gleberef7_Long: function 58 -/
def gleberef7_Long.f (l0 : List Int) : Option (Int × Int × Bool) := if (l0.length : Int) > 1000000 then (some (2, 1000000, true)) else (some (0, 0, false))
set_option maxHeartbeats 8000000 in
set_option maxRecDepth 100000 in
theorem gleberef7_Long.calls (A0 : Option Addr) (c0 : Nat) (l0 : List Int) (r1 : Int) (r2 : Int) (r3 : Bool) (w : World) (hr0 : Kd.C (Kd.int .u8) w A0 l0.length l0) (hc0 : l0.length ≤ c0) (h : gleberef7_Long.f l0 = some (r1, r2, r3)) :
  Calls Tryd.prog 58 #[.slice A0 l0.length c0] w fun e w' => e = .returned (.tuple #[.agg #[.int .i64 r1, .int .i64 r2], .bool r3]) ∧ Below w.heap.size w w' := by
 have hu54 := Tryd.underlying54
 have HR0 := Aside0.mk hr0
 have HC0 := Aside0.mk hc0
 clear hr0 hc0
 have HB := Aside0.mk (Below.refl w.heap.size w)
 have H : (if (l0.length : Int) > 1000000 then (some (2, 1000000, true)) else (some (0, 0, false))) = some (r1, r2, r3) := h
 clear h
 by_cases c2 : (l0.length : Int) > 1000000
 ·rw [if_pos c2] at H
  have c2b0 := decide_eq_true c2
  have c2b1 : decide (1000000 < l0.length) = true := decide_eq_true (by omega)
  clear c2
  simp only [Option.some.injEq, Prod.mk.injEq] at H
  obtain ⟨rfl, rfl, rfl⟩ := H
  go_enter Tryd.func58, Tryd.ntmps58
  go_wp2_with (first | ((with_reducible refine gate_dst (N := 2) rfl ?_); refine bE (N := 2) (cs := #[.int .i64 0, .int .i64 0]) (t := 54) (h := ?_); intro gb322 hg w3 hbox hb; have BK322 := Aside0.mk (hbox); have GW322 := Aside0.mk (gE hg (fW HB.out)); have GE322 := GW322; replace HB := Aside0.mk (below_step (fW HB.out) hb); clear hb hbox hg; have hcz4_0 : w3.cell? ⟨gb322, 0, none⟩ = some (.int .i64 0) := (blk_cell BK322.out 0).trans rfl; have hcz4_1 : w3.cell? ⟨gb322, 1, none⟩ = some (.int .i64 0) := (blk_cell BK322.out 1).trans rfl; have hfz4_0 := blk_frozen BK322.out 0; have hfz4_1 := blk_frozen BK322.out 1))
  refine bodyPost_ret (results_ct rfl _ _ gb322 54 #[.int .i64 2, .int .i64 1000000] (0, 0) _ rfl (by refine fB (h := ?_); refine blk_put (cs := #[.int .i64 2, .int .i64 0]) ?_ 1 _ rfl; refine fB (h := ?_); refine blk_put (cs := #[.int .i64 0, .int .i64 0]) ?_ 0 _ rfl; refine fB (h := ?_); exact BK322.out) Tryd.underlying54 rfl (by kernel_rfl)) rfl ?_
  exact ⟨oE, fW HB.out⟩
 ·rw [if_neg c2] at H
  have c2b0 := decide_eq_false c2
  have c2b1 : decide (1000000 < l0.length) = false := decide_eq_false (by omega)
  clear c2
  simp only [Option.some.injEq, Prod.mk.injEq] at H
  obtain ⟨rfl, rfl, rfl⟩ := H
  go_enter Tryd.func58, Tryd.ntmps58
  go_wp2_with (first | ((with_reducible refine gate_dst (N := 2) rfl ?_); refine bE (N := 2) (cs := #[.int .i64 0, .int .i64 0]) (t := 54) (h := ?_); intro gb322 hg w5 hbox hb; have BK322 := Aside0.mk (hbox); have GW322 := Aside0.mk (gE hg (fW HB.out)); have GE322 := GW322; replace HB := Aside0.mk (below_step (fW HB.out) hb); clear hb hbox hg; have hcz6_0 : w5.cell? ⟨gb322, 0, none⟩ = some (.int .i64 0) := (blk_cell BK322.out 0).trans rfl; have hcz6_1 : w5.cell? ⟨gb322, 1, none⟩ = some (.int .i64 0) := (blk_cell BK322.out 1).trans rfl; have hfz6_0 := blk_frozen BK322.out 0; have hfz6_1 := blk_frozen BK322.out 1))
  refine bodyPost_ret (results_ct rfl _ _ gb322 54 #[.int .i64 0, .int .i64 0] (0, 0) _ rfl (by refine fB (h := ?_); refine blk_put (cs := #[.int .i64 0, .int .i64 0]) ?_ 1 _ rfl; refine fB (h := ?_); refine blk_put (cs := #[.int .i64 0, .int .i64 0]) ?_ 0 _ rfl; refine fB (h := ?_); exact BK322.out) Tryd.underlying54 rfl (by kernel_rfl)) rfl ?_
  exact ⟨oE, fW HB.out⟩

/-! ### gleberef7_syntax: function 60 -/
def gleberef7_syntax.f (a0 : Int) : Option (Int × Int) := some (1, a0)
set_option maxHeartbeats 8000000 in
set_option maxRecDepth 100000 in
theorem gleberef7_syntax.calls (a0 : Int) (r1 : Int) (r2 : Int) (w : World) (h : gleberef7_syntax.f a0 = some (r1, r2)) :
  Calls Tryd.prog 60 #[.int .i64 a0] w fun e w' => e = .returned (.agg #[.int .i64 r1, .int .i64 r2]) ∧ Below w.heap.size w w' := by
 have hu54 := Tryd.underlying54
 have HB := Aside0.mk (Below.refl w.heap.size w)
 have H : (some (1, a0)) = some (r1, r2) := h
 clear h
 simp only [Option.some.injEq, Prod.mk.injEq] at H
 obtain ⟨rfl, rfl⟩ := H
 go_enter Tryd.func60, Tryd.ntmps60
 go_wp2_with (first | ((with_reducible refine gate_dst (N := 2) rfl ?_); refine bE (N := 2) (cs := #[.int .i64 0, .int .i64 0]) (t := 54) (h := ?_); intro gb323 hg w2 hbox hb; have BK323 := Aside0.mk (hbox); have GW323 := Aside0.mk (gE hg (fW HB.out)); have GE323 := GW323; replace HB := Aside0.mk (below_step (fW HB.out) hb); clear hb hbox hg; have hcz3_0 : w2.cell? ⟨gb323, 0, none⟩ = some (.int .i64 0) := (blk_cell BK323.out 0).trans rfl; have hcz3_1 : w2.cell? ⟨gb323, 1, none⟩ = some (.int .i64 0) := (blk_cell BK323.out 1).trans rfl; have hfz3_0 := blk_frozen BK323.out 0; have hfz3_1 := blk_frozen BK323.out 1))
 refine bodyPost_ret (results_cell_row rfl _ _ gb323 54 #[.int .i64 1, .int .i64 a0] (0, 0) _ rfl (by refine fB (h := ?_); refine blk_put (cs := #[.int .i64 1, .int .i64 0]) ?_ 1 _ rfl; refine fB (h := ?_); refine blk_put (cs := #[.int .i64 0, .int .i64 0]) ?_ 0 _ rfl; refine fB (h := ?_); exact BK323.out) Tryd.underlying54 rfl (by kernel_rfl)) rfl ?_
 exact ⟨oE, fW HB.out⟩

/-! ### gleberef7_quoted: function 74 -/
mutual
def gleberef7_quoted.l0 : Nat → List Int → Int → List Int → Option (ByteArray × Int × Int)
 | 0, _, _, _ => none
 | k + 1, x0, x1, x7 => if x1 < (x0.length : Int) then (if 0 ≤ x1 then (if (rd x0 x1) = 34 then (if (wrap64 (x1 + 1)) < (x0.length : Int) then (if 0 ≤ (wrap64 (x1 + 1)) then (gleberef7_quoted.j1 k x0 x1 x7 ((rd x0 (wrap64 (x1 + 1))) == 34)) else (none)) else (gleberef7_quoted.j1 k x0 x1 x7 false)) else (gleberef7_quoted.j1 k x0 x1 x7 false)) else (none)) else (some ((⟨#[]⟩ : ByteArray), 0, (x0.length : Int)))
def gleberef7_quoted.j1 : Nat → List Int → Int → List Int → Bool → Option (ByteArray × Int × Int)
 | 0, _, _, _, _ => none
 | k + 1, x0, x1, x7, x21 => if x21 = true then (if x7.length < 140737488355328 then (gleberef7_quoted.l0 k x0 (wrap64 (x1 + 2)) (x7 ++ [34])) else (none)) else (if 0 ≤ x1 then (if x1 < (x0.length : Int) then (if (rd x0 x1) = 34 then (some (strOfNums x7, wrap64 (x1 + 1), (-1))) else (if (rd x0 x1) = 10 then (if x7.length < 140737488355328 then (gleberef7_quoted.l0 k x0 (wrap64 (x1 + 1)) (x7 ++ [rd x0 x1])) else (none)) else (if (rd x0 x1) = 13 then (if x7.length < 140737488355328 then (gleberef7_quoted.l0 k x0 (wrap64 (x1 + 1)) (x7 ++ [rd x0 x1])) else (none)) else (if (rd x0 x1) < 32 then (some ((⟨#[]⟩ : ByteArray), 0, x1)) else (if (rd x0 x1) > 126 then (some ((⟨#[]⟩ : ByteArray), 0, x1)) else (if x7.length < 140737488355328 then (gleberef7_quoted.l0 k x0 (wrap64 (x1 + 1)) (x7 ++ [rd x0 x1])) else (none))))))) else (none)) else (none))
end
def gleberef7_quoted.f (k : Nat) (l0 : List Int) (a1 : Int) : Option (ByteArray × Int × Int) := gleberef7_quoted.l0 k l0 a1 ([] : List Int)
theorem gleberef7_quoted.mono_l : ∀ k, (∀ y0 y1 y2, LeO (gleberef7_quoted.l0 k y0 y1 y2) (gleberef7_quoted.l0 (k + 1) y0 y1 y2)) ∧ (∀ y0 y1 y2 y3, LeO (gleberef7_quoted.j1 k y0 y1 y2 y3) (gleberef7_quoted.j1 (k + 1) y0 y1 y2 y3))
 | 0 => ⟨fun _ _ _ r h => by simp [gleberef7_quoted.l0] at h, fun _ _ _ _ r h => by simp [gleberef7_quoted.j1] at h⟩
 | k + 1 => by
  obtain ⟨ih0, ih1⟩ := gleberef7_quoted.mono_l k
  refine ⟨?_, ?_⟩
  ·intro y0 y1 y2
   unfold gleberef7_quoted.l0
   repeat' first
   | (with_reducible first | exact ih0 _ _ _ | exact ih1 _ _ _ _ | exact LeO.refl _ | exact LeO.none _ | refine LeO.ite ?_ ?_ | refine LeO.bind ?_ (fun _ => ?_))
   | exact ih0 _ _ _
   | exact ih1 _ _ _ _
   | exact LeO.none _
   | refine LeO.ite ?_ ?_
   | refine LeO.bind ?_ (fun _ => ?_)
  ·intro y0 y1 y2 y3
   unfold gleberef7_quoted.j1
   repeat' first
   | (with_reducible first | exact ih0 _ _ _ | exact ih1 _ _ _ _ | exact LeO.refl _ | exact LeO.none _ | refine LeO.ite ?_ ?_ | refine LeO.bind ?_ (fun _ => ?_))
   | exact ih0 _ _ _
   | exact ih1 _ _ _ _
   | exact LeO.none _
   | refine LeO.ite ?_ ?_
   | refine LeO.bind ?_ (fun _ => ?_)
theorem gleberef7_quoted.mono : ∀ a0 a1 k, LeO (gleberef7_quoted.f k a0 a1) (gleberef7_quoted.f (k + 1) a0 a1) := by
 intro a0 a1 k
 obtain ⟨ih0, ih1⟩ := gleberef7_quoted.mono_l k
 unfold gleberef7_quoted.f
 repeat' first
   | (with_reducible first | exact ih0 _ _ _ | exact ih1 _ _ _ _ | exact LeO.refl _ | exact LeO.none _ | refine LeO.ite ?_ ?_ | refine LeO.bind ?_ (fun _ => ?_))
   | exact ih0 _ _ _
   | exact ih1 _ _ _ _
   | exact LeO.none _
   | refine LeO.ite ?_ ?_
   | refine LeO.bind ?_ (fun _ => ?_)
set_option maxHeartbeats 8000000 in
set_option maxRecDepth 100000 in
theorem gleberef7_quoted.calls (k : Nat) (A0 : Option Addr) (c0 : Nat) (l0 : List Int) (a1 : Int) (r1 : ByteArray) (r2 : Int) (r3 : Int) (w : World) (hr0 : Kd.C (Kd.int .u8) w A0 l0.length l0) (hc0 : l0.length ≤ c0) (h : gleberef7_quoted.f k l0 a1 = some (r1, r2, r3)) :
  Calls Tryd.prog 74 #[.slice A0 l0.length c0, .int .i64 a1] w fun e w' => e = .returned (.tuple #[.string r1, .int .i64 r2, .int .i64 r3]) ∧ Below w.heap.size w w' := by
 have HR0 := Aside0.mk hr0
 have HC0 := Aside0.mk hc0
 clear hr0 hc0
 have HB := Aside0.mk (Below.refl w.heap.size w)
 have H : (gleberef7_quoted.l0 k l0 a1 ([] : List Int)) = some (r1, r2, r3) := h
 clear h
 have H' := Aside0.mk H
 clear H
 go_enter Tryd.func74, Tryd.ntmps74
 go_wp2
 go_loopg [1, 7] k (fun kq v1 v7 w' => ∃ (x1_1 : Int) (x7_1 : List Int), v1 = .int .i64 x1_1 ∧ Aside0 (gleberef7_quoted.l0 kq l0 x1_1 x7_1 = some (r1, r2, r3)) ∧ Aside0 (kq ≤ k) ∧ Aside0 (Kd.R (Kd.int .u8) 5 w' w.heap.size (fun _ => True) v7 x7_1) ∧ Aside0 (Below w.heap.size w w'))
 case atStart => exact ⟨(a1), (([] : List Int)), oR, H', ⟨Nat.le_refl _⟩, ⟨by first | exact Kd.R_nil _ _ _ _ _ | exact Kd.N_nil _ _ _ _ _ | exact Kd.V_nil _ _ _ _ _ | exact Kd.Q_nil _ _ _ _ _ | exact Kd.S_nil _ _ _ _ _⟩, ⟨fW HB.out⟩⟩
 case round =>
  clear H'
  obtain ⟨x1_1, x7_1, rfl, HA, HK1, HO_7, HB⟩ := hrel
  cases gk with
  | zero => exact absurd HA.out (by simp [gleberef7_quoted.l0])
  | succ k1 =>
   have H := HA.out
   clear HA
   simp only [gleberef7_quoted.l0] at H
   by_cases c3 : x1_1 < (l0.length : Int)
   ·rw [if_pos c3] at H
    have c3b0 := decide_eq_true c3
    clear c3
    have HC4 := Aside0.mk H
    clear H
    go_upto_region 5 with (fail)
    go_cut [21] (fun v21 wc => ∃ (kq : Nat) (x21_3 : Bool), v21 = .bool x21_3 ∧ Aside0 (gleberef7_quoted.j1 kq l0 x1_1 x7_1 x21_3 = some (r1, r2, r3)) ∧ Aside0 (kq ≤ k1) ∧ Aside0 (Kd.R (Kd.int .u8) 5 wc w.heap.size (fun _ => True) u7 x7_1) ∧ Aside0 (Below w.heap.size w wc))
    case first =>
     have H := HC4.out
     clear HC4
     obtain ⟨c5, H⟩ := eT H
     have c5b0 := decide_eq_true c5
     clear c5
     (first | rw [c5b0] | (simp only [i64_w, i32_w]; rw [c5b0]) | skip)
     by_cases c6 : (rd l0 x1_1) = 34
     ·rw [if_pos c6] at H
      have c6b0 := qT c6
      have c6b1 := nF c6
      clear c6
      by_cases c7 : (wrap64 (x1_1 + 1)) < (l0.length : Int)
      ·rw [if_pos c7] at H
       have c7b0 := decide_eq_true c7
       clear c7
       obtain ⟨ji8, hji8⟩ : ∃ j_ : Int, (wrap64 (x1_1 + 1)) = j_ := ⟨_, rfl⟩
       replace H : (if 0 ≤ (ji8) then (gleberef7_quoted.j1 k1 l0 x1_1 x7_1 ((rd l0 (ji8)) == 34)) else (none)) = some (r1, r2, r3) := by first | (rw [hji8] at H; exact H) | (simp only [hji8] at H ⊢; exact H)
       (try rw [hji8] at c7b0)
       have hji8w : (IntKind.i64.wrap (x1_1 + 1)) = ji8 := (i64_w _).trans hji8
       obtain ⟨c9, H⟩ := eT H
       have c9b0 := decide_eq_true c9
       clear c9
       have H' := Aside0.mk H
       clear H
       obtain ⟨ad324, rfl, hx324_0, p324, q324⟩ := aI HB HR0 (x1_1)
       obtain ⟨hx325_0, p325, q325⟩ := aJ HB HR0 ((ji8))
       go_wp2
       go_meet
       case rel => exact ⟨_, (((rd l0 (ji8)) == 34)), (by first | rfl | (simp; done) | (simp only [← hji8] <;> (first | rfl | simp)) | (simp [*]; done)), H', ⟨by have := HK1.out; first | omega | exact Nat.le_refl _⟩, ⟨fR HO_7.out⟩, ⟨fW HB.out⟩⟩
      ·rw [if_neg c7] at H
       have c7b0 := decide_eq_false c7
       clear c7
       have H' := Aside0.mk H
       clear H
       obtain ⟨ad324, rfl, hx324_0, p324, q324⟩ := aI HB HR0 (x1_1)
       go_wp2
       go_meet
       case rel => exact ⟨_, (false), oR, H', ⟨by have := HK1.out; first | omega | exact Nat.le_refl _⟩, ⟨fR HO_7.out⟩, ⟨fW HB.out⟩⟩
     ·rw [if_neg c6] at H
      have c6b0 : ((rd l0 x1_1) == 34) = false := beq_eq_false_iff_ne.mpr c6
      have c6b1 : ((rd l0 x1_1) != 34) = true := bne_iff_ne.mpr c6
      have H' := Aside0.mk H
      clear H
      obtain ⟨ad324, rfl, hx324_0, p324, q324⟩ := aI HB HR0 (x1_1)
      go_wp2
      go_meet
      case rel => exact ⟨_, (false), oR, H', ⟨by have := HK1.out; first | omega | exact Nat.le_refl _⟩, ⟨fR HO_7.out⟩, ⟨fW HB.out⟩⟩
    case rest =>
     clear HC4
     try clear c3; try clear c3b0; try clear c5; try clear c5b0; try clear c6; try clear c6b0; try clear c6b1; try clear c7; try clear c7b0; try clear c9; try clear c9b0; try clear hx324_0; try clear hx325_0; try clear p324; try clear p325; try clear q324; try clear q325
     obtain ⟨kq, x21_3, rfl, HA, HJ3, HO_7, HB⟩ := hcut
     cases kq with
     | zero => exact absurd HA.out (by simp [gleberef7_quoted.j1])
     | succ kj3 =>
      have H := HA.out
      clear HA
      simp only [gleberef7_quoted.j1] at H
      by_cases c10 : x21_3 = true
      ·subst c10
       replace H := iT H
       obtain ⟨c11, H⟩ := eT H
       have LMc11 := Aside0.mk c11
       clear c11
       obtain ⟨y326, hy326⟩ : ∃ y_ : List Int, y_ = (x7_1 ++ [34]) := ⟨_, rfl⟩
       replace H : (gleberef7_quoted.l0 kj3 l0 (wrap64 (x1_1 + 2)) y326) = some (r1, r2, r3) := by first | (rw [hy326]; with_reducible exact H) | (have H2_ := (Option.bind_some _ _).symm.trans H; rw [hy326]; with_reducible exact H2_) | (have H2_ := (Option.bind_some _ _).symm.trans H; with_reducible exact H2_) | with_reducible exact H | (rw [hy326]; exact H) | exact H
       have Ny326 := Aside0.mk hy326
       clear hy326
       have H' := Aside0.mk H
       clear H
       go_wp2_with (first | ((with_reducible refine gate_builtin (b := .append) (xs := #[.tmp 42, .tmp 43]) rfl ?_); (try (refine gate_guard (by rfl) ?_; dsimp only)); at_builtin; refine Kd.R_append (Kd.int .u8) (w0 := w) w.heap.size rfl (.tmp 42) (.tmp 43) 35 5 (.int .u8 0) 1 rfl Tryd.underlying35 info5 rfl (by decide) (by omega) u7 x7_1 34 [.int .u8 34] (fun _ => True) (fun _ => False) rfl rfl ?aP (fun _ hk => hk.elim) ?aF ?aO ?aB ?aS ?aL ?_; (case aP => exact rfl); (case aB => exact (fW HB.out)); (case aF => exact (fun _ _ => trivial)); (case aO => exact (fR HO_7.out)); (case aS => exact (below_size (fW HB.out))); (case aL => have := LMc11.out; omega); intro v327 w12 ho hb hg hat; rw [← Ny326.out] at ho; replace HB := Aside0.mk (hb); have HO328 := Aside0.mk (ho); clear HO_7; clear ho hb hg hat))
       go_roundg kj3
       case measure => have := HK1.out; have := HJ3.out; omega
       case rel => exact ⟨(wrap64 (x1_1 + 2)), (y326), oR, H', ⟨by have := HK1.out; have := HJ3.out; omega⟩, ⟨fR HO328.out⟩, ⟨fW HB.out⟩⟩
      ·replace c10 := Bool.eq_false_iff.mpr c10
       subst c10
       replace H := iF H
       obtain ⟨c13, H⟩ := eT H
       have c13b0 := decide_eq_true c13
       clear c13
       obtain ⟨c14, H⟩ := eT H
       have c14b0 := decide_eq_true c14
       clear c14
       by_cases c15 : (rd l0 x1_1) = 34
       ·rw [if_pos c15] at H
        have c15b0 := qT c15
        have c15b1 := nF c15
        clear c15
        simp only [Option.some.injEq, Prod.mk.injEq] at H
        obtain ⟨rfl, rfl, rfl⟩ := H
        obtain ⟨ad329, rfl, hx329_0, p329, q329⟩ := aI HB HR0 (x1_1)
        have hcv16 := own_string (P := Tryd.prog) Tryd.underlying35 Tryd.underlying5 Tryd.underlying9 (Kd.own_of_R HO_7.out)
        go_wp2
        go_ret3
        exact ⟨oE, fW HB.out⟩
       ·rw [if_neg c15] at H
        have c15b0 : ((rd l0 x1_1) == 34) = false := beq_eq_false_iff_ne.mpr c15
        have c15b1 : ((rd l0 x1_1) != 34) = true := bne_iff_ne.mpr c15
        by_cases c17 : (rd l0 x1_1) = 10
        ·rw [if_pos c17] at H
         have c17b0 := qT c17
         have c17b1 := nF c17
         clear c17
         obtain ⟨c18, H⟩ := eT H
         have LMc18 := Aside0.mk c18
         clear c18
         obtain ⟨y332, hy332⟩ : ∃ y_ : List Int, y_ = (x7_1 ++ [rd l0 x1_1]) := ⟨_, rfl⟩
         replace H : (gleberef7_quoted.l0 kj3 l0 (wrap64 (x1_1 + 1)) y332) = some (r1, r2, r3) := by first | (rw [hy332]; with_reducible exact H) | (have H2_ := (Option.bind_some _ _).symm.trans H; rw [hy332]; with_reducible exact H2_) | (have H2_ := (Option.bind_some _ _).symm.trans H; with_reducible exact H2_) | with_reducible exact H | (rw [hy332]; exact H) | exact H
         have Ny332 := Aside0.mk hy332
         clear hy332
         have H' := Aside0.mk H
         clear H
         obtain ⟨ad329, rfl, hx329_0, p329, q329⟩ := aI HB HR0 (x1_1)
         obtain ⟨hx330_0, p330, q330⟩ := aJ HB HR0 (x1_1)
         obtain ⟨hx331_0, p331, q331⟩ := aJ HB HR0 (x1_1)
         go_wp2_with (first | ((with_reducible refine gate_builtin (b := .append) (xs := #[.tmp 12, .tmp 17]) rfl ?_); (try (refine gate_guard (by rfl) ?_; dsimp only)); at_builtin; refine Kd.R_append (Kd.int .u8) (w0 := w) w.heap.size rfl (.tmp 12) (.tmp 17) 35 5 (.int .u8 0) 1 rfl Tryd.underlying35 info5 rfl (by decide) (by omega) u7 x7_1 (rd l0 x1_1) [.int .u8 (rd l0 x1_1)] (fun _ => True) (fun _ => False) rfl rfl ?aP (fun _ hk => hk.elim) ?aF ?aO ?aB ?aS ?aL ?_; (case aP => exact rfl); (case aB => exact (fW HB.out)); (case aF => exact (fun _ _ => trivial)); (case aO => exact (fR HO_7.out)); (case aS => exact (below_size (fW HB.out))); (case aL => have := LMc18.out; omega); intro v333 w19 ho hb hg hat; rw [← Ny332.out] at ho; replace HB := Aside0.mk (hb); have HO334 := Aside0.mk (ho); clear HO_7; clear ho hb hg hat))
         go_roundg kj3
         case measure => have := HK1.out; have := HJ3.out; omega
         case rel => exact ⟨(wrap64 (x1_1 + 1)), (y332), oR, H', ⟨by have := HK1.out; have := HJ3.out; omega⟩, ⟨fR HO334.out⟩, ⟨fW HB.out⟩⟩
        ·rw [if_neg c17] at H
         have c17b0 : ((rd l0 x1_1) == 10) = false := beq_eq_false_iff_ne.mpr c17
         have c17b1 : ((rd l0 x1_1) != 10) = true := bne_iff_ne.mpr c17
         by_cases c20 : (rd l0 x1_1) = 13
         ·rw [if_pos c20] at H
          have c20b0 := qT c20
          have c20b1 := nF c20
          clear c20
          obtain ⟨c21, H⟩ := eT H
          have LMc21 := Aside0.mk c21
          clear c21
          obtain ⟨y337, hy337⟩ : ∃ y_ : List Int, y_ = (x7_1 ++ [rd l0 x1_1]) := ⟨_, rfl⟩
          replace H : (gleberef7_quoted.l0 kj3 l0 (wrap64 (x1_1 + 1)) y337) = some (r1, r2, r3) := by first | (rw [hy337]; with_reducible exact H) | (have H2_ := (Option.bind_some _ _).symm.trans H; rw [hy337]; with_reducible exact H2_) | (have H2_ := (Option.bind_some _ _).symm.trans H; with_reducible exact H2_) | with_reducible exact H | (rw [hy337]; exact H) | exact H
          have Ny337 := Aside0.mk hy337
          clear hy337
          have H' := Aside0.mk H
          clear H
          obtain ⟨ad329, rfl, hx329_0, p329, q329⟩ := aI HB HR0 (x1_1)
          obtain ⟨hx330_0, p330, q330⟩ := aJ HB HR0 (x1_1)
          obtain ⟨hx335_0, p335, q335⟩ := aJ HB HR0 (x1_1)
          obtain ⟨hx336_0, p336, q336⟩ := aJ HB HR0 (x1_1)
          go_wp2_with (first | ((with_reducible refine gate_builtin (b := .append) (xs := #[.tmp 12, .tmp 17]) rfl ?_); (try (refine gate_guard (by rfl) ?_; dsimp only)); at_builtin; refine Kd.R_append (Kd.int .u8) (w0 := w) w.heap.size rfl (.tmp 12) (.tmp 17) 35 5 (.int .u8 0) 1 rfl Tryd.underlying35 info5 rfl (by decide) (by omega) u7 x7_1 (rd l0 x1_1) [.int .u8 (rd l0 x1_1)] (fun _ => True) (fun _ => False) rfl rfl ?aP (fun _ hk => hk.elim) ?aF ?aO ?aB ?aS ?aL ?_; (case aP => exact rfl); (case aB => exact (fW HB.out)); (case aF => exact (fun _ _ => trivial)); (case aO => exact (fR HO_7.out)); (case aS => exact (below_size (fW HB.out))); (case aL => have := LMc21.out; omega); intro v338 w22 ho hb hg hat; rw [← Ny337.out] at ho; replace HB := Aside0.mk (hb); have HO339 := Aside0.mk (ho); clear HO_7; clear ho hb hg hat))
          go_roundg kj3
          case measure => have := HK1.out; have := HJ3.out; omega
          case rel => exact ⟨(wrap64 (x1_1 + 1)), (y337), oR, H', ⟨by have := HK1.out; have := HJ3.out; omega⟩, ⟨fR HO339.out⟩, ⟨fW HB.out⟩⟩
         ·rw [if_neg c20] at H
          have c20b0 : ((rd l0 x1_1) == 13) = false := beq_eq_false_iff_ne.mpr c20
          have c20b1 : ((rd l0 x1_1) != 13) = true := bne_iff_ne.mpr c20
          by_cases c23 : (rd l0 x1_1) < 32
          ·rw [if_pos c23] at H
           have c23b0 := decide_eq_true c23
           clear c23
           simp only [Option.some.injEq, Prod.mk.injEq] at H
           obtain ⟨rfl, rfl, rfl⟩ := H
           obtain ⟨ad329, rfl, hx329_0, p329, q329⟩ := aI HB HR0 (x1_1)
           obtain ⟨hx330_0, p330, q330⟩ := aJ HB HR0 (x1_1)
           obtain ⟨hx335_0, p335, q335⟩ := aJ HB HR0 (x1_1)
           obtain ⟨hx340_0, p340, q340⟩ := aJ HB HR0 (x1_1)
           go_wp2
           go_ret3
           exact ⟨oE, fW HB.out⟩
          ·rw [if_neg c23] at H
           have c23b0 := decide_eq_false c23
           clear c23
           by_cases c24 : (rd l0 x1_1) > 126
           ·rw [if_pos c24] at H
            have c24b0 := decide_eq_true c24
            clear c24
            simp only [Option.some.injEq, Prod.mk.injEq] at H
            obtain ⟨rfl, rfl, rfl⟩ := H
            obtain ⟨ad329, rfl, hx329_0, p329, q329⟩ := aI HB HR0 (x1_1)
            obtain ⟨hx330_0, p330, q330⟩ := aJ HB HR0 (x1_1)
            obtain ⟨hx335_0, p335, q335⟩ := aJ HB HR0 (x1_1)
            obtain ⟨hx340_0, p340, q340⟩ := aJ HB HR0 (x1_1)
            obtain ⟨hx341_0, p341, q341⟩ := aJ HB HR0 (x1_1)
            go_wp2
            go_ret3
            exact ⟨oE, fW HB.out⟩
           ·rw [if_neg c24] at H
            have c24b0 := decide_eq_false c24
            clear c24
            obtain ⟨c25, H⟩ := eT H
            have LMc25 := Aside0.mk c25
            clear c25
            obtain ⟨y343, hy343⟩ : ∃ y_ : List Int, y_ = (x7_1 ++ [rd l0 x1_1]) := ⟨_, rfl⟩
            replace H : (gleberef7_quoted.l0 kj3 l0 (wrap64 (x1_1 + 1)) y343) = some (r1, r2, r3) := by first | (rw [hy343]; with_reducible exact H) | (have H2_ := (Option.bind_some _ _).symm.trans H; rw [hy343]; with_reducible exact H2_) | (have H2_ := (Option.bind_some _ _).symm.trans H; with_reducible exact H2_) | with_reducible exact H | (rw [hy343]; exact H) | exact H
            have Ny343 := Aside0.mk hy343
            clear hy343
            have H' := Aside0.mk H
            clear H
            obtain ⟨ad329, rfl, hx329_0, p329, q329⟩ := aI HB HR0 (x1_1)
            obtain ⟨hx330_0, p330, q330⟩ := aJ HB HR0 (x1_1)
            obtain ⟨hx335_0, p335, q335⟩ := aJ HB HR0 (x1_1)
            obtain ⟨hx340_0, p340, q340⟩ := aJ HB HR0 (x1_1)
            obtain ⟨hx341_0, p341, q341⟩ := aJ HB HR0 (x1_1)
            obtain ⟨hx342_0, p342, q342⟩ := aJ HB HR0 (x1_1)
            go_wp2_with (first | ((with_reducible refine gate_builtin (b := .append) (xs := #[.tmp 12, .tmp 17]) rfl ?_); (try (refine gate_guard (by rfl) ?_; dsimp only)); at_builtin; refine Kd.R_append (Kd.int .u8) (w0 := w) w.heap.size rfl (.tmp 12) (.tmp 17) 35 5 (.int .u8 0) 1 rfl Tryd.underlying35 info5 rfl (by decide) (by omega) u7 x7_1 (rd l0 x1_1) [.int .u8 (rd l0 x1_1)] (fun _ => True) (fun _ => False) rfl rfl ?aP (fun _ hk => hk.elim) ?aF ?aO ?aB ?aS ?aL ?_; (case aP => exact rfl); (case aB => exact (fW HB.out)); (case aF => exact (fun _ _ => trivial)); (case aO => exact (fR HO_7.out)); (case aS => exact (below_size (fW HB.out))); (case aL => have := LMc25.out; omega); intro v344 w26 ho hb hg hat; rw [← Ny343.out] at ho; replace HB := Aside0.mk (hb); have HO345 := Aside0.mk (ho); clear HO_7; clear ho hb hg hat))
            go_roundg kj3
            case measure => have := HK1.out; have := HJ3.out; omega
            case rel => exact ⟨(wrap64 (x1_1 + 1)), (y343), oR, H', ⟨by have := HK1.out; have := HJ3.out; omega⟩, ⟨fR HO345.out⟩, ⟨fW HB.out⟩⟩
   ·rw [if_neg c3] at H
    have c3b0 := decide_eq_false c3
    clear c3
    simp only [Option.some.injEq, Prod.mk.injEq] at H
    obtain ⟨rfl, rfl, rfl⟩ := H
    go_wp2
    go_ret3
    exact ⟨oE, fW HB.out⟩

end Go.Proofs.YtcgchblljhbdaaaDoor.C
