-- Printed by this session's own program (wip/xprint) out of the translation. Lean checks it.
import Derived.Test.YtcgchblljhbdaaaDoorCx0
import Derived.Test.YtcgchblljhbdaaaDoorCx10
namespace Go.Proofs.YtcgchblljhbdaaaDoor.C
open Go.Proofs.YtcgchblljhbdaaaDoor
open Go.RowKit Go.Proofs.YtcgchblljhbdaaaDoorW.PrintWords Go.Proofs.YtcgchblljhbdaaaDoorW.PrintLast Go.Proofs.YtcgchblljhbdaaaDoorW.PrintMore
attribute [local go_sem] max2_int min2_int max_two min_two max_three min_three max_four min_four   -- for this text's walks alone
set_option linter.unusedVariables false
set_option linter.unusedSimpArgs false

/-! ### gleberef7_field: function 59 -/
mutual
def gleberef7_field.j0 : Nat → List Int → Int → Int → Bool → Int → ByteArray → Int → Option (Int × ByteArray × Int × Int × Int × Int)
 | 0, _, _, _, _, _, _, _ => none
 | k + 1, x0, x1, x8, x25, x349000, x349001, x349002 => if x25 = true then ((gleberef7_quoted.f k x0 (wrap64 (x1 + 1))).bind fun bt350 => (if bt350.2.2 ≥ 0 then ((gleberef7_syntax.f bt350.2.2).bind fun bt353 => (some (x349000, x349001, x349002, 0, bt353.1, bt353.2))) else (if (bt350.1.size : Int) > 255 then (some (x349000, bt350.1, x349002, 0, 2, x1)) else (gleberef7_field.j2 k x0 x1 bt350.2.1 x349000 bt350.1 x349002)))) else (gleberef7_field.l0 k x0 x1 x8 x349000 x349001 x349002)
def gleberef7_field.j2 : Nat → List Int → Int → Int → Int → ByteArray → Int → Option (Int × ByteArray × Int × Int × Int × Int)
 | 0, _, _, _, _, _, _ => none
 | k + 1, x0, x1, x8, x349000, x349001, x349002 => if x8 < (x0.length : Int) then (if 0 ≤ x8 then (if (rd x0 x8) = 44 then (gleberef7_field.j3 k x1 x8 false x349000 x349001 x349002) else (if (rd x0 x8) = 10 then (gleberef7_field.j3 k x1 x8 false x349000 x349001 x349002) else (gleberef7_field.j3 k x1 x8 ((rd x0 x8) != 13) x349000 x349001 x349002))) else (none)) else (gleberef7_field.j3 k x1 x8 false x349000 x349001 x349002)
def gleberef7_field.j3 : Nat → Int → Int → Bool → Int → ByteArray → Int → Option (Int × ByteArray × Int × Int × Int × Int)
 | 0, _, _, _, _, _, _ => none
 | k + 1, x1, x8, x112, x349000, x349001, x349002 => if x112 = true then ((gleberef7_syntax.f x8).bind fun bt367 => (some (x349000, x349001, x349002, 0, bt367.1, bt367.2))) else (if (x349001.size : Int) > 255 then (some (x349000, x349001, x349002, 0, 2, x1)) else (some (x349000, x349001, x349002, x8, 0, 0)))
def gleberef7_field.l0 : Nat → List Int → Int → Int → Int → ByteArray → Int → Option (Int × ByteArray × Int × Int × Int × Int)
 | 0, _, _, _, _, _, _ => none
 | k + 1, x0, x1, x8, x349000, x349001, x349002 => if x8 < (x0.length : Int) then (if 0 ≤ x8 then (if (rd x0 x8) ≥ 32 then (if (rd x0 x8) ≤ 126 then (if (rd x0 x8) = 34 then (if 0 ≤ x1 then (if x1 ≤ x8 then (if x8 ≤ (x0.length : Int) then (gleberef7_field.j2 k x0 x1 x8 x349000 (strOfNums ((x0.take (x8 : Int).toNat).drop (x1 : Int).toNat)) x349002) else (none)) else (none)) else (none)) else (if (rd x0 x8) = 44 then (if 0 ≤ x1 then (if x1 ≤ x8 then (if x8 ≤ (x0.length : Int) then (gleberef7_field.j2 k x0 x1 x8 x349000 (strOfNums ((x0.take (x8 : Int).toNat).drop (x1 : Int).toNat)) x349002) else (none)) else (none)) else (none)) else (gleberef7_field.l0 k x0 x1 (wrap64 (x8 + 1)) x349000 x349001 x349002))) else (if 0 ≤ x1 then (if x1 ≤ x8 then (if x8 ≤ (x0.length : Int) then (gleberef7_field.j2 k x0 x1 x8 x349000 (strOfNums ((x0.take (x8 : Int).toNat).drop (x1 : Int).toNat)) x349002) else (none)) else (none)) else (none))) else (if 0 ≤ x1 then (if x1 ≤ x8 then (if x8 ≤ (x0.length : Int) then (gleberef7_field.j2 k x0 x1 x8 x349000 (strOfNums ((x0.take (x8 : Int).toNat).drop (x1 : Int).toNat)) x349002) else (none)) else (none)) else (none))) else (none)) else (if 0 ≤ x1 then (if x1 ≤ x8 then (if x8 ≤ (x0.length : Int) then (gleberef7_field.j2 k x0 x1 x8 x349000 (strOfNums ((x0.take (x8 : Int).toNat).drop (x1 : Int).toNat)) x349002) else (none)) else (none)) else (none))
end
def gleberef7_field.f (k : Nat) (l0 : List Int) (a1 : Int) : Option (Int × ByteArray × Int × Int × Int × Int) := if a1 < (l0.length : Int) then (if 0 ≤ a1 then (gleberef7_field.j0 k l0 a1 a1 ((rd l0 a1) == 34) 5 (⟨#[]⟩ : ByteArray) a1) else (none)) else (gleberef7_field.j0 k l0 a1 a1 false 5 (⟨#[]⟩ : ByteArray) a1)
theorem gleberef7_field.mono_l : ∀ k, (∀ y0 y1 y2 y3 y4 y5 y6, LeO (gleberef7_field.j0 k y0 y1 y2 y3 y4 y5 y6) (gleberef7_field.j0 (k + 1) y0 y1 y2 y3 y4 y5 y6)) ∧ (∀ y0 y1 y2 y3 y4 y5, LeO (gleberef7_field.j2 k y0 y1 y2 y3 y4 y5) (gleberef7_field.j2 (k + 1) y0 y1 y2 y3 y4 y5)) ∧ (∀ y0 y1 y2 y3 y4 y5, LeO (gleberef7_field.j3 k y0 y1 y2 y3 y4 y5) (gleberef7_field.j3 (k + 1) y0 y1 y2 y3 y4 y5)) ∧ (∀ y0 y1 y2 y3 y4 y5, LeO (gleberef7_field.l0 k y0 y1 y2 y3 y4 y5) (gleberef7_field.l0 (k + 1) y0 y1 y2 y3 y4 y5))
 | 0 => ⟨fun _ _ _ _ _ _ _ r h => by simp [gleberef7_field.j0] at h, fun _ _ _ _ _ _ r h => by simp [gleberef7_field.j2] at h, fun _ _ _ _ _ _ r h => by simp [gleberef7_field.j3] at h, fun _ _ _ _ _ _ r h => by simp [gleberef7_field.l0] at h⟩
 | k + 1 => by
  obtain ⟨ih0, ih1, ih2, ih3⟩ := gleberef7_field.mono_l k
  refine ⟨?_, ?_, ?_, ?_⟩
  ·intro y0 y1 y2 y3 y4 y5 y6
   unfold gleberef7_field.j0
   repeat' first
   | (with_reducible first | exact ih0 _ _ _ _ _ _ _ | exact ih1 _ _ _ _ _ _ | exact ih2 _ _ _ _ _ _ | exact ih3 _ _ _ _ _ _ | exact gleberef7_quoted.mono _ _ _ | exact LeO.refl _ | exact LeO.none _ | refine LeO.ite ?_ ?_ | refine LeO.bind ?_ (fun _ => ?_))
   | exact ih0 _ _ _ _ _ _ _
   | exact ih1 _ _ _ _ _ _
   | exact ih2 _ _ _ _ _ _
   | exact ih3 _ _ _ _ _ _
   | exact gleberef7_quoted.mono _ _ _
   | exact LeO.none _
   | refine LeO.ite ?_ ?_
   | refine LeO.bind ?_ (fun _ => ?_)
  ·intro y0 y1 y2 y3 y4 y5
   unfold gleberef7_field.j2
   repeat' first
   | (with_reducible first | exact ih0 _ _ _ _ _ _ _ | exact ih1 _ _ _ _ _ _ | exact ih2 _ _ _ _ _ _ | exact ih3 _ _ _ _ _ _ | exact gleberef7_quoted.mono _ _ _ | exact LeO.refl _ | exact LeO.none _ | refine LeO.ite ?_ ?_ | refine LeO.bind ?_ (fun _ => ?_))
   | exact ih0 _ _ _ _ _ _ _
   | exact ih1 _ _ _ _ _ _
   | exact ih2 _ _ _ _ _ _
   | exact ih3 _ _ _ _ _ _
   | exact gleberef7_quoted.mono _ _ _
   | exact LeO.none _
   | refine LeO.ite ?_ ?_
   | refine LeO.bind ?_ (fun _ => ?_)
  ·intro y0 y1 y2 y3 y4 y5
   unfold gleberef7_field.j3
   repeat' first
   | (with_reducible first | exact ih0 _ _ _ _ _ _ _ | exact ih1 _ _ _ _ _ _ | exact ih2 _ _ _ _ _ _ | exact ih3 _ _ _ _ _ _ | exact gleberef7_quoted.mono _ _ _ | exact LeO.refl _ | exact LeO.none _ | refine LeO.ite ?_ ?_ | refine LeO.bind ?_ (fun _ => ?_))
   | exact ih0 _ _ _ _ _ _ _
   | exact ih1 _ _ _ _ _ _
   | exact ih2 _ _ _ _ _ _
   | exact ih3 _ _ _ _ _ _
   | exact gleberef7_quoted.mono _ _ _
   | exact LeO.none _
   | refine LeO.ite ?_ ?_
   | refine LeO.bind ?_ (fun _ => ?_)
  ·intro y0 y1 y2 y3 y4 y5
   unfold gleberef7_field.l0
   repeat' first
   | (with_reducible first | exact ih0 _ _ _ _ _ _ _ | exact ih1 _ _ _ _ _ _ | exact ih2 _ _ _ _ _ _ | exact ih3 _ _ _ _ _ _ | exact gleberef7_quoted.mono _ _ _ | exact LeO.refl _ | exact LeO.none _ | refine LeO.ite ?_ ?_ | refine LeO.bind ?_ (fun _ => ?_))
   | exact ih0 _ _ _ _ _ _ _
   | exact ih1 _ _ _ _ _ _
   | exact ih2 _ _ _ _ _ _
   | exact ih3 _ _ _ _ _ _
   | exact gleberef7_quoted.mono _ _ _
   | exact LeO.none _
   | refine LeO.ite ?_ ?_
   | refine LeO.bind ?_ (fun _ => ?_)
theorem gleberef7_field.mono : ∀ a0 a1 k, LeO (gleberef7_field.f k a0 a1) (gleberef7_field.f (k + 1) a0 a1) := by
 intro a0 a1 k
 obtain ⟨ih0, ih1, ih2, ih3⟩ := gleberef7_field.mono_l k
 unfold gleberef7_field.f
 repeat' first
   | (with_reducible first | exact ih0 _ _ _ _ _ _ _ | exact ih1 _ _ _ _ _ _ | exact ih2 _ _ _ _ _ _ | exact ih3 _ _ _ _ _ _ | exact gleberef7_quoted.mono _ _ _ | exact LeO.refl _ | exact LeO.none _ | refine LeO.ite ?_ ?_ | refine LeO.bind ?_ (fun _ => ?_))
   | exact ih0 _ _ _ _ _ _ _
   | exact ih1 _ _ _ _ _ _
   | exact ih2 _ _ _ _ _ _
   | exact ih3 _ _ _ _ _ _
   | exact gleberef7_quoted.mono _ _ _
   | exact LeO.none _
   | refine LeO.ite ?_ ?_
   | refine LeO.bind ?_ (fun _ => ?_)
set_option maxHeartbeats 8000000 in
set_option maxRecDepth 100000 in
theorem gleberef7_field.calls (k : Nat) (A0 : Option Addr) (c0 : Nat) (l0 : List Int) (a1 : Int) (r1 : Int) (r2 : ByteArray) (r3 : Int) (r4 : Int) (r5 : Int) (r6 : Int) (w : World) (hr0 : Kd.C (Kd.int .u8) w A0 l0.length l0) (hc0 : l0.length ≤ c0) (h : gleberef7_field.f k l0 a1 = some (r1, r2, r3, r4, r5, r6)) :
  Calls Tryd.prog 59 #[.slice A0 l0.length c0, .int .i64 a1] w fun e w' => e = .returned (.tuple #[.agg #[.int .i64 r1, .string r2, .int .i64 r3], .int .i64 r4, .agg #[.int .i64 r5, .int .i64 r6]]) ∧ Below w.heap.size w w' := by
 have hu59 := Tryd.underlying59
 have hu54 := Tryd.underlying54
 have HR0 := Aside0.mk hr0
 have HC0 := Aside0.mk hc0
 clear hr0 hc0
 have HB := Aside0.mk (Below.refl w.heap.size w)
 have H : (if a1 < (l0.length : Int) then (if 0 ≤ a1 then (gleberef7_field.j0 k l0 a1 a1 ((rd l0 a1) == 34) 5 (⟨#[]⟩ : ByteArray) a1) else (none)) else (gleberef7_field.j0 k l0 a1 a1 false 5 (⟨#[]⟩ : ByteArray) a1)) = some (r1, r2, r3, r4, r5, r6) := h
 clear h
 have HC3 := Aside0.mk H
 clear H
 go_enter Tryd.func59, Tryd.ntmps59
 go_upto_region 3 with (first | ((with_reducible refine gate_dst (N := 4) rfl ?_); refine bE (N := 4) (cs := #[.int .i64 0, .string (⟨#[]⟩ : ByteArray), .int .i64 0]) (t := 59) (h := ?_); intro gb346 hg w4 hbox hb; have BK346 := Aside0.mk (hbox); have GW346 := Aside0.mk (gE hg (fW HB.out)); have GE346 := GW346; replace HB := Aside0.mk (below_step (fW HB.out) hb); clear hb hbox hg) | ((with_reducible refine gate_dst (N := 6) rfl ?_); refine bE (N := 6) (cs := #[.int .i64 0, .int .i64 0]) (t := 54) (h := ?_); intro gb347 hg w5 hbox hb; have BK347 := Aside0.mk (hbox); have GW347 := Aside0.mk (gE hg (fW HB.out)); have GE347 := GW347; replace HB := Aside0.mk (below_step (fW HB.out) hb); have NB346_347 := Aside0.mk ((by rw [hg]; exact Nat.ne_of_lt (blk_lt (g := gb346) (o := .cells #[.int .i64 0, .string (⟨#[]⟩ : ByteArray), .int .i64 0] 59 (0, 0)) (fB BK346.out)) : gb346 ≠ gb347)); have NB347_346 := Aside0.mk ((by rw [hg]; exact Nat.ne_of_gt (blk_lt (g := gb346) (o := .cells #[.int .i64 0, .string (⟨#[]⟩ : ByteArray), .int .i64 0] 59 (0, 0)) (fB BK346.out)) : gb347 ≠ gb346)); replace BK346 := Aside0.mk (blk_below (fB BK346.out) hb); clear hb hbox hg) | ((with_reducible refine gate_dst (N := 7) rfl ?_); refine bE (N := 7) (cs := #[.int .i64 0, .string (⟨#[]⟩ : ByteArray), .int .i64 0]) (t := 59) (h := ?_); intro gb348 hg w6 hbox hb; have BK348 := Aside0.mk (hbox); have GW348 := Aside0.mk (gE hg (fW HB.out)); have GE348 := GW348; replace HB := Aside0.mk (below_step (fW HB.out) hb); have NB346_348 := Aside0.mk ((by rw [hg]; exact Nat.ne_of_lt (blk_lt (g := gb346) (o := .cells #[.int .i64 0, .string (⟨#[]⟩ : ByteArray), .int .i64 0] 59 (0, 0)) (fB BK346.out)) : gb346 ≠ gb348)); have NB348_346 := Aside0.mk ((by rw [hg]; exact Nat.ne_of_gt (blk_lt (g := gb346) (o := .cells #[.int .i64 0, .string (⟨#[]⟩ : ByteArray), .int .i64 0] 59 (0, 0)) (fB BK346.out)) : gb348 ≠ gb346)); replace BK346 := Aside0.mk (blk_below (fB BK346.out) hb); have NB347_348 := Aside0.mk ((by rw [hg]; exact Nat.ne_of_lt (blk_lt (g := gb347) (o := .cells #[.int .i64 0, .int .i64 0] 54 (0, 0)) (fB BK347.out)) : gb347 ≠ gb348)); have NB348_347 := Aside0.mk ((by rw [hg]; exact Nat.ne_of_gt (blk_lt (g := gb347) (o := .cells #[.int .i64 0, .int .i64 0] 54 (0, 0)) (fB BK347.out)) : gb348 ≠ gb347)); replace BK347 := Aside0.mk (blk_below (fB BK347.out) hb); clear hb hbox hg; have hnb7 := NB348_346.out; have hnc7 := NB346_348.out; have hnb8 := NB348_347.out; have hnc8 := NB347_348.out; have hcz9_0 : w6.cell? ⟨gb348, 0, none⟩ = some (.int .i64 0) := (blk_cell BK348.out 0).trans rfl; have hcz9_1 : w6.cell? ⟨gb348, 1, none⟩ = some (.string (⟨#[]⟩ : ByteArray)) := (blk_cell BK348.out 1).trans rfl; have hcz9_2 : w6.cell? ⟨gb348, 2, none⟩ = some (.int .i64 0) := (blk_cell BK348.out 2).trans rfl; have hfz9_0 := blk_frozen BK348.out 0; have hfz9_1 := blk_frozen BK348.out 1; have hfz9_2 := blk_frozen BK348.out 2))
 (try simp only [Act.put, List.setIfInBounds_toArray, List.set_cons_zero, List.set_cons_succ])
 go_cut [25] (fun v25 wc => ∃ (kq : Nat) (x25_2 : Bool), v25 = .bool x25_2 ∧ Aside0 (gleberef7_field.j0 kq l0 a1 a1 x25_2 5 (⟨#[]⟩ : ByteArray) a1 = some (r1, r2, r3, r4, r5, r6)) ∧ Aside0 (kq ≤ k) ∧ Aside0 (wc.heap[gb346]? = some (.cells #[.int .i64 0, .string (⟨#[]⟩ : ByteArray), .int .i64 0] 59 (0, 0))) ∧ Aside0 (wc.heap[gb347]? = some (.cells #[.int .i64 0, .int .i64 0] 54 (0, 0))) ∧ Aside0 (wc.heap[gb348]? = some (.cells #[.int .i64 5, .string (⟨#[]⟩ : ByteArray), .int .i64 a1] 59 (0, 0))) ∧ Aside0 (Below w.heap.size w wc))
 case first =>
  have H := HC3.out
  clear HC3
  by_cases c10 : a1 < (l0.length : Int)
  ·rw [if_pos c10] at H
   have c10b0 := decide_eq_true c10
   clear c10
   (first | rw [c10b0] | (simp only [i64_w, i32_w]; rw [c10b0]) | skip)
   obtain ⟨c11, H⟩ := eT H
   have c11b0 := decide_eq_true c11
   clear c11
   have H' := Aside0.mk H
   clear H
   have p349 : 0 ≤ (a1 : Int) := oD
   have q349 : a1 < (l0.length : Int) := oD
   obtain ⟨ad349, e349, hx349_0⟩ := Kd.at_int HR0.out a1 p349 q349
   cases e349
   have hn349_0 : ad349.block ≠ gb348 := Nat.ne_of_lt (Nat.lt_of_lt_of_le (by have := World.block_lt_of_cell? _ _ hx349_0; first | rwa [add_block] at this | exact this) GW348.out)
   have hn349_1 : ad349.block ≠ gb348 := Nat.ne_of_lt (Nat.lt_of_lt_of_le (by have := World.block_lt_of_cell? _ _ hx349_0; first | rwa [add_block] at this | exact this) GW348.out)
   have hn349_2 : ad349.block ≠ gb348 := Nat.ne_of_lt (Nat.lt_of_lt_of_le (by have := World.block_lt_of_cell? _ _ hx349_0; first | rwa [add_block] at this | exact this) GW348.out)
   replace hx349_0 := (HB.out.cell (World.block_lt_of_cell? w _ hx349_0)).trans hx349_0
   replace hx349_0 := (cell_far (p := ⟨gb348, 0, none⟩) (by first | (rw [add_block]; exact hn349_0) | (show (Addr.add _ _).block ≠ _; rw [add_block]; exact hn349_0) | exact hn349_0) (.int .i64 5)).trans hx349_0
   replace hx349_0 := (cell_far (p := ⟨gb348, 1, none⟩) (by first | (rw [add_block]; exact hn349_1) | (show (Addr.add _ _).block ≠ _; rw [add_block]; exact hn349_1) | exact hn349_1) (.string (⟨#[]⟩ : ByteArray))).trans hx349_0
   replace hx349_0 := (cell_far (p := ⟨gb348, 2, none⟩) (by first | (rw [add_block]; exact hn349_2) | (show (Addr.add _ _).block ≠ _; rw [add_block]; exact hn349_2) | exact hn349_2) (.int .i64 a1)).trans hx349_0
   clear hn349_0
   clear hn349_1
   clear hn349_2
   replace p349 := eq_true p349
   replace q349 := eq_true q349
   go_wp2
   go_meet
   case rel => exact ⟨_, (((rd l0 a1) == 34)), oR, H', ⟨by first | omega | exact Nat.le_refl _⟩, ⟨by refine fB (h := ?_); refine blk_far ?_ NB346_348.out _; refine fB (h := ?_); refine blk_far ?_ NB346_348.out _; refine fB (h := ?_); refine blk_far ?_ NB346_348.out _; refine fB (h := ?_); exact BK346.out⟩, ⟨by refine fB (h := ?_); refine blk_far ?_ NB347_348.out _; refine fB (h := ?_); refine blk_far ?_ NB347_348.out _; refine fB (h := ?_); refine blk_far ?_ NB347_348.out _; refine fB (h := ?_); exact BK347.out⟩, ⟨by refine fB (h := ?_); refine blk_put (cs := #[.int .i64 5, .string (⟨#[]⟩ : ByteArray), .int .i64 0]) ?_ 2 _ rfl; refine fB (h := ?_); refine blk_put (cs := #[.int .i64 5, .string (⟨#[]⟩ : ByteArray), .int .i64 0]) ?_ 1 _ rfl; refine fB (h := ?_); refine blk_put (cs := #[.int .i64 0, .string (⟨#[]⟩ : ByteArray), .int .i64 0]) ?_ 0 _ rfl; refine fB (h := ?_); exact BK348.out⟩, ⟨fW HB.out⟩⟩
  ·rw [if_neg c10] at H
   have c10b0 := decide_eq_false c10
   clear c10
   (first | rw [c10b0] | (simp only [i64_w, i32_w]; rw [c10b0]) | skip)
   have H' := Aside0.mk H
   clear H
   go_wp2
   go_meet
   case rel => exact ⟨_, (false), oR, H', ⟨by first | omega | exact Nat.le_refl _⟩, ⟨by refine fB (h := ?_); refine blk_far ?_ NB346_348.out _; refine fB (h := ?_); refine blk_far ?_ NB346_348.out _; refine fB (h := ?_); refine blk_far ?_ NB346_348.out _; refine fB (h := ?_); exact BK346.out⟩, ⟨by refine fB (h := ?_); refine blk_far ?_ NB347_348.out _; refine fB (h := ?_); refine blk_far ?_ NB347_348.out _; refine fB (h := ?_); refine blk_far ?_ NB347_348.out _; refine fB (h := ?_); exact BK347.out⟩, ⟨by refine fB (h := ?_); refine blk_put (cs := #[.int .i64 5, .string (⟨#[]⟩ : ByteArray), .int .i64 0]) ?_ 2 _ rfl; refine fB (h := ?_); refine blk_put (cs := #[.int .i64 5, .string (⟨#[]⟩ : ByteArray), .int .i64 0]) ?_ 1 _ rfl; refine fB (h := ?_); refine blk_put (cs := #[.int .i64 0, .string (⟨#[]⟩ : ByteArray), .int .i64 0]) ?_ 0 _ rfl; refine fB (h := ?_); exact BK348.out⟩, ⟨fW HB.out⟩⟩
 case rest =>
  clear HC3
  try clear c10; try clear c10b0; try clear c11; try clear c11b0; try clear hcz9_0; try clear hcz9_1; try clear hcz9_2; try clear hfz9_0; try clear hfz9_1; try clear hfz9_2; try clear hx349_0; try clear p349; try clear q349
  obtain ⟨kq, x25_2, rfl, HA, HJ2, BK346, BK347, BK348, HB⟩ := hcut
  cases kq with
  | zero => exact absurd HA.out (by simp [gleberef7_field.j0])
  | succ kj2 =>
   have H := HA.out
   clear HA
   simp only [gleberef7_field.j0] at H
   have HC12 := Aside0.mk H
   clear H
   go_upto_if 25 with (fail)
   go_cut [8] (fun v8 wc => ∃ (kq : Nat) (x8_11 : Int) (x347000_11 : Int) (x347001_11 : ByteArray) (x347002_11 : Int) (x348000_11 : Int) (x348001_11 : Int) (x349001_11 : ByteArray), v8 = .int .i64 x8_11 ∧ Aside0 (gleberef7_field.j2 kq l0 a1 x8_11 5 x349001_11 a1 = some (r1, r2, r3, r4, r5, r6)) ∧ Aside0 (kq ≤ kj2) ∧ Aside0 (wc.heap[gb346]? = some (.cells #[.int .i64 x347000_11, .string x347001_11, .int .i64 x347002_11] 59 (0, 0))) ∧ Aside0 (wc.heap[gb347]? = some (.cells #[.int .i64 x348000_11, .int .i64 x348001_11] 54 (0, 0))) ∧ Aside0 (wc.heap[gb348]? = some (.cells #[.int .i64 5, .string x349001_11, .int .i64 a1] 59 (0, 0))) ∧ Aside0 (Below w.heap.size w wc))
   case first =>
    have H := HC12.out
    clear HC12
    by_cases c13 : x25_2 = true
    ·subst c13
     replace H := iT H
     obtain ⟨⟨t350, t351, t352⟩, A140, H⟩ := bS H
     dsimp only at H
     have A14 := Aside0.mk A140
     clear A140
     by_cases c15 : t352 ≥ 0
     ·rw [if_pos c15] at H
      have c15b0 := decide_eq_true c15
      clear c15
      (first | rw [c15b0] | (simp only [i64_w, i32_w]; rw [c15b0]) | skip)
      obtain ⟨⟨t353, t354⟩, A160, H⟩ := bS H
      dsimp only at H
      have A16 := Aside0.mk A160
      clear A160
      simp only [Option.some.injEq, Prod.mk.injEq] at H
      obtain ⟨rfl, rfl, rfl, rfl, rfl, rfl⟩ := H
      try go_wp2_with (first | ((with_reducible refine gate_callee (f := 74) rfl ?_); refine goesL_ (some 30) rfl rfl Tryd.func74 (by kernel_rfl) rfl #[.slice A0 l0.length c0, .int .i64 (wrap64 (a1 + 1))] rfl oA ?_; (with_reducible refine (gleberef7_quoted.calls kj2 _ _ l0 (wrap64 (a1 + 1)) t350 t351 t352 _ ?side1 ?side2 A14.out).mono ?_); (case side1 => exact fC (Kd.C_below HR0.out HB.out)); (case side2 => exact HC0.out); rintro e w17 ⟨rfl, hb⟩; refine ⟨_, rfl, ?_⟩; replace BK346 := Aside0.mk (blk_below (fB BK346.out) hb); replace BK347 := Aside0.mk (blk_below (fB BK347.out) hb); replace BK348 := Aside0.mk (blk_below (fB BK348.out) hb); replace HB := Aside0.mk (below_step (fW HB.out) hb); (try clear hb); (try clear hb2); (try clear hk); (try clear hi)))
      have n0_ := Aside0.mk (blk_drew BK346.out)
      have n1_ := Aside0.mk (blk_drew BK347.out)
      have n2_ := Aside0.mk (blk_drew BK348.out)
      have n3_ := Aside0.mk (below_drew1 HB.out)
      clear BK346
      clear BK347
      clear BK348
      clear HB
      have BK346 := n0_
      have BK347 := n1_
      have BK348 := n2_
      have HB := n3_
      clear n0_ n1_ n2_ n3_
      refine start_ (n := 6) (S := fun w' => w'.cell? ⟨gb348, 0, none⟩ = some (.int .i64 5) ∧ w'.cell? ⟨gb348, 1, none⟩ = some (.string (⟨#[]⟩ : ByteArray)) ∧ w'.cell? ⟨gb348, 2, none⟩ = some (.int .i64 a1)) (ds := []) #[false, false, false, false, false, false] (by kernel_rfl) rfl rfl ⟨(blk_cell BK348.out 0).trans rfl, (blk_cell BK348.out 1).trans rfl, (blk_cell BK348.out 2).trans rfl⟩ (fun hHeld => ?_)
      generalize w17.drew = w18 at BK346 BK347 BK348 HB hHeld ⊢
      refine pure_ (i := 1) (N := some 37) (v := ?_) (a' := ?_) #[false, true, false, false, false, false] rfl rfl (by kernel_rfl) (fun _ _ _ h => h) (Or.inl ⟨by rfl, ?_⟩) ?_ ?_
      rotate_left
      ·intro w'
       go_simp
       with_reducible rfl
      rotate_left
      ·refine sP (h := ?_)
       rfl
      refine take_ (i := 0) (N := some 36) (v := ?_) (a' := ?_) #[true, true, false, false, false, false] rfl rfl (by kernel_rfl) (fun _ _ _ h => h) (Or.inl ⟨by rfl, ?_⟩) hHeld ?_ ?_
      rotate_left
      ·rintro w' ⟨s0, s1, s2⟩
       go_simp
       with_reducible rfl
      rotate_left
      ·refine sP (h := ?_)
       rfl
      refine one_ (i := 2) (N := some 38) #[true, true, true, false, false, false] rfl rfl (by kernel_rfl) (by decide) (fun K hK => ?_)
      refine goes_ Tryd.func60 (by kernel_rfl) rfl #[.int .i64 t352] (by rfl) rfl rfl oA ?_
      with_reducible refine (gleberef7_syntax.calls t352 t353 t354 _ A16.out).mono ?_
      rintro e w19 ⟨rfl, hb⟩
      refine ⟨_, rfl, ?_⟩
      have n0_ := Aside0.mk (blk_below (fB BK346.out) hb)
      have n1_ := Aside0.mk (blk_below (fB BK347.out) hb)
      have n2_ := Aside0.mk (blk_below (fB BK348.out) hb)
      have n3_ := Aside0.mk (below_step (fW HB.out) hb)
      clear BK346
      clear BK347
      clear BK348
      clear HB
      have BK346 := n0_
      have BK347 := n1_
      have BK348 := n2_
      have HB := n3_
      clear n0_ n1_ n2_ n3_
      (try clear hb)
      (try clear hb2)
      (try clear hk)
      (try clear hi)
      refine hK.out _ _ ⟨(blk_cell BK348.out 0).trans rfl, (blk_cell BK348.out 1).trans rfl, (blk_cell BK348.out 2).trans rfl⟩ (fun hHeld => ?_)
      clear hK K
      refine norm_ (a' := ?_) ?_ ?_
      rotate_left
      ·show Act.put _ (some 38) _ = _
       refine sP (h := ?_)
       rfl
      refine one_ (i := 3) (N := none) #[true, true, true, true, false, false] rfl rfl (by kernel_rfl) (by decide) (fun K hK => ?_)
      have hs20 : w19.cell? ⟨gb346, 0, none⟩ = some (.int .i64 0) := (blk_cell BK346.out 0).trans rfl
      have hfs20 := blk_frozen BK346.out 0
      have hns20_1 := NB347_346.out
      have hns20_2 := NB348_346.out
      have hms20_1 := NB346_347.out
      have hms20_2 := NB346_348.out
      have hs21 : w19.cell? ⟨gb346, 1, none⟩ = some (.string (⟨#[]⟩ : ByteArray)) := (blk_cell BK346.out 1).trans rfl
      have hfs21 := blk_frozen BK346.out 1
      have hns21_1 := NB347_346.out
      have hns21_2 := NB348_346.out
      have hms21_1 := NB346_347.out
      have hms21_2 := NB346_348.out
      have hs22 : w19.cell? ⟨gb346, 2, none⟩ = some (.int .i64 0) := (blk_cell BK346.out 2).trans rfl
      have hfs22 := blk_frozen BK346.out 2
      have hns22_1 := NB347_346.out
      have hns22_2 := NB348_346.out
      have hms22_1 := NB346_347.out
      have hms22_2 := NB346_348.out
      refine skip_ (w1 := ?_) (by rfl) rfl ?_ ?_
      rotate_left
      ·go_simp
       rfl
      refine hK.out _ _ ⟨((cell_far (p := ⟨gb346, _, none⟩) NB348_346.out _).trans (((cell_far (p := ⟨gb346, _, none⟩) NB348_346.out _).trans (((cell_far (p := ⟨gb346, _, none⟩) NB348_346.out _).trans (hHeld.1)))))), ((cell_far (p := ⟨gb346, _, none⟩) NB348_346.out _).trans (((cell_far (p := ⟨gb346, _, none⟩) NB348_346.out _).trans (((cell_far (p := ⟨gb346, _, none⟩) NB348_346.out _).trans (hHeld.2.1)))))), ((cell_far (p := ⟨gb346, _, none⟩) NB348_346.out _).trans (((cell_far (p := ⟨gb346, _, none⟩) NB348_346.out _).trans (((cell_far (p := ⟨gb346, _, none⟩) NB348_346.out _).trans (hHeld.2.2))))))⟩ (fun hHeld => ?_)
      clear hK K
      refine pure_ (i := 4) (N := some 5) (v := ?_) (a' := ?_) #[true, true, true, true, true, false] rfl rfl (by kernel_rfl) (fun _ _ _ h => h) (Or.inl ⟨by rfl, ?_⟩) ?_ ?_
      rotate_left
      ·intro w'
       go_simp
       with_reducible rfl
      rotate_left
      ·refine sP (h := ?_)
       rfl
      refine one_ (i := 5) (N := none) #[true, true, true, true, true, true] rfl rfl (by kernel_rfl) (by decide) (fun K hK => ?_)
      have hs23 : w19.cell? ⟨gb347, 0, none⟩ = some (.int .i64 0) := (blk_cell BK347.out 0).trans rfl
      have hfs23 := blk_frozen BK347.out 0
      have hns23_0 := NB346_347.out
      have hns23_2 := NB348_347.out
      have hms23_0 := NB347_346.out
      have hms23_2 := NB347_348.out
      have hs24 : w19.cell? ⟨gb347, 1, none⟩ = some (.int .i64 0) := (blk_cell BK347.out 1).trans rfl
      have hfs24 := blk_frozen BK347.out 1
      have hns24_0 := NB346_347.out
      have hns24_2 := NB348_347.out
      have hms24_0 := NB347_346.out
      have hms24_2 := NB347_348.out
      refine skip_ (w1 := ?_) (by rfl) rfl ?_ ?_
      rotate_left
      ·go_simp
       rfl
      refine hK.out _ _ ⟨((cell_far (p := ⟨gb347, _, none⟩) NB348_347.out _).trans (((cell_far (p := ⟨gb347, _, none⟩) NB348_347.out _).trans (hHeld.1)))), ((cell_far (p := ⟨gb347, _, none⟩) NB348_347.out _).trans (((cell_far (p := ⟨gb347, _, none⟩) NB348_347.out _).trans (hHeld.2.1)))), ((cell_far (p := ⟨gb347, _, none⟩) NB348_347.out _).trans (((cell_far (p := ⟨gb347, _, none⟩) NB348_347.out _).trans (hHeld.2.2))))⟩ (fun hHeld => ?_)
      clear hK K
      refine done_ (by kernel_rfl) ?_
      try go_wp2
      refine bodyPost_ret (results_list (rs := [.cell 4 59, .tmp 5, .cell 6 54]) rfl (by simp) (.cell gb346 59 #[.int .i64 5, .string (⟨#[]⟩ : ByteArray), .int .i64 a1] (0, 0) _ rfl (by refine fB (h := ?_); refine blk_far ?_ NB346_347.out _; refine fB (h := ?_); refine blk_far ?_ NB346_347.out _; refine fB (h := ?_); refine blk_put (cs := #[.int .i64 5, .string (⟨#[]⟩ : ByteArray), .int .i64 0]) ?_ 2 _ rfl; refine fB (h := ?_); refine blk_put (cs := #[.int .i64 5, .string (⟨#[]⟩ : ByteArray), .int .i64 0]) ?_ 1 _ rfl; refine fB (h := ?_); refine blk_put (cs := #[.int .i64 0, .string (⟨#[]⟩ : ByteArray), .int .i64 0]) ?_ 0 _ rfl; refine fB (h := ?_); exact BK346.out) Tryd.underlying59 rfl (by kernel_rfl) (.tmp (.cell gb347 54 #[.int .i64 t353, .int .i64 t354] (0, 0) _ rfl (by refine fB (h := ?_); refine blk_put (cs := #[.int .i64 t353, .int .i64 0]) ?_ 1 _ rfl; refine fB (h := ?_); refine blk_put (cs := #[.int .i64 0, .int .i64 0]) ?_ 0 _ rfl; refine fB (h := ?_); refine blk_far ?_ NB347_346.out _; refine fB (h := ?_); refine blk_far ?_ NB347_346.out _; refine fB (h := ?_); refine blk_far ?_ NB347_346.out _; refine fB (h := ?_); exact BK347.out) Tryd.underlying54 rfl (by kernel_rfl) .nil)))) rfl ?_
      exact ⟨oE, fW HB.out⟩
     ·rw [if_neg c15] at H
      have c15b0 := decide_eq_false c15
      clear c15
      (first | rw [c15b0] | (simp only [i64_w, i32_w]; rw [c15b0]) | skip)
      by_cases c25 : (t350.size : Int) > 255
      ·rw [if_pos c25] at H
       have c25b0 := decide_eq_true c25
       have c25b1 : decide (255 < t350.size) = true := decide_eq_true (by omega)
       clear c25
       simp only [Option.some.injEq, Prod.mk.injEq] at H
       obtain ⟨rfl, rfl, rfl, rfl, rfl, rfl⟩ := H
       go_wp2_with (first | ((with_reducible refine gate_callee (f := 74) rfl ?_); refine goesL_ (some 30) rfl rfl Tryd.func74 (by kernel_rfl) rfl #[.slice A0 l0.length c0, .int .i64 (wrap64 (a1 + 1))] rfl oA ?_; (with_reducible refine (gleberef7_quoted.calls kj2 _ _ l0 (wrap64 (a1 + 1)) t350 t351 t352 _ ?side1 ?side2 A14.out).mono ?_); (case side1 => exact fC (Kd.C_below HR0.out HB.out)); (case side2 => exact HC0.out); rintro e w26 ⟨rfl, hb⟩; refine ⟨_, rfl, ?_⟩; replace BK346 := Aside0.mk (blk_below (fB BK346.out) hb); replace BK347 := Aside0.mk (blk_below (fB BK347.out) hb); replace BK348 := Aside0.mk (blk_below (fB BK348.out) hb); replace HB := Aside0.mk (below_step (fW HB.out) hb); (try clear hb); (try clear hb2); (try clear hk); (try clear hi); have hnb27 := NB348_346.out; have hnc27 := NB346_348.out; have hnb28 := NB348_347.out; have hnc28 := NB347_348.out; have hcz29_0 : w26.cell? ⟨gb348, 0, none⟩ = some (.int .i64 5) := (blk_cell BK348.out 0).trans rfl; have hcz29_1 : w26.cell? ⟨gb348, 1, none⟩ = some (.string (⟨#[]⟩ : ByteArray)) := (blk_cell BK348.out 1).trans rfl; have hcz29_2 : w26.cell? ⟨gb348, 2, none⟩ = some (.int .i64 a1) := (blk_cell BK348.out 2).trans rfl; have hfz29_0 := blk_frozen BK348.out 0; have hfz29_1 := blk_frozen BK348.out 1; have hfz29_2 := blk_frozen BK348.out 2; have hnb30 := NB346_347.out; have hnc30 := NB347_346.out; have hcz31_0 : w26.cell? ⟨gb346, 0, none⟩ = some (.int .i64 0) := (blk_cell BK346.out 0).trans rfl; have hcz31_1 : w26.cell? ⟨gb346, 1, none⟩ = some (.string (⟨#[]⟩ : ByteArray)) := (blk_cell BK346.out 1).trans rfl; have hcz31_2 : w26.cell? ⟨gb346, 2, none⟩ = some (.int .i64 0) := (blk_cell BK346.out 2).trans rfl; have hfz31_0 := blk_frozen BK346.out 0; have hfz31_1 := blk_frozen BK346.out 1; have hfz31_2 := blk_frozen BK346.out 2; have hcz32_0 : w26.cell? ⟨gb347, 0, none⟩ = some (.int .i64 0) := (blk_cell BK347.out 0).trans rfl; have hcz32_1 : w26.cell? ⟨gb347, 1, none⟩ = some (.int .i64 0) := (blk_cell BK347.out 1).trans rfl; have hfz32_0 := blk_frozen BK347.out 0; have hfz32_1 := blk_frozen BK347.out 1))
       refine bodyPost_ret (results_list (rs := [.cell 4 59, .tmp 5, .cell 6 54]) rfl (by simp) (.cell gb346 59 #[.int .i64 5, .string t350, .int .i64 a1] (0, 0) _ rfl (by refine fB (h := ?_); refine blk_far ?_ NB346_347.out _; refine fB (h := ?_); refine blk_far ?_ NB346_347.out _; refine fB (h := ?_); refine blk_put (cs := #[.int .i64 5, .string t350, .int .i64 0]) ?_ 2 _ rfl; refine fB (h := ?_); refine blk_put (cs := #[.int .i64 5, .string (⟨#[]⟩ : ByteArray), .int .i64 0]) ?_ 1 _ rfl; refine fB (h := ?_); refine blk_put (cs := #[.int .i64 0, .string (⟨#[]⟩ : ByteArray), .int .i64 0]) ?_ 0 _ rfl; refine fB (h := ?_); refine blk_far ?_ NB346_348.out _; refine fB (h := ?_); exact BK346.out) Tryd.underlying59 rfl (by kernel_rfl) (.tmp (.cell gb347 54 #[.int .i64 2, .int .i64 a1] (0, 0) _ rfl (by refine fB (h := ?_); refine blk_put (cs := #[.int .i64 2, .int .i64 0]) ?_ 1 _ rfl; refine fB (h := ?_); refine blk_put (cs := #[.int .i64 0, .int .i64 0]) ?_ 0 _ rfl; refine fB (h := ?_); refine blk_far ?_ NB347_346.out _; refine fB (h := ?_); refine blk_far ?_ NB347_346.out _; refine fB (h := ?_); refine blk_far ?_ NB347_346.out _; refine fB (h := ?_); refine blk_far ?_ NB347_348.out _; refine fB (h := ?_); exact BK347.out) Tryd.underlying54 rfl (by kernel_rfl) .nil)))) rfl ?_
       exact ⟨oE, fW HB.out⟩
      ·rw [if_neg c25] at H
       have c25b0 := decide_eq_false c25
       have c25b1 : decide (255 < t350.size) = false := decide_eq_false (by omega)
       clear c25
       have H' := Aside0.mk H
       clear H
       go_wp2_with (first | ((with_reducible refine gate_callee (f := 74) rfl ?_); refine goesL_ (some 30) rfl rfl Tryd.func74 (by kernel_rfl) rfl #[.slice A0 l0.length c0, .int .i64 (wrap64 (a1 + 1))] rfl oA ?_; (with_reducible refine (gleberef7_quoted.calls kj2 _ _ l0 (wrap64 (a1 + 1)) t350 t351 t352 _ ?side1 ?side2 A14.out).mono ?_); (case side1 => exact fC (Kd.C_below HR0.out HB.out)); (case side2 => exact HC0.out); rintro e w33 ⟨rfl, hb⟩; refine ⟨_, rfl, ?_⟩; replace BK346 := Aside0.mk (blk_below (fB BK346.out) hb); replace BK347 := Aside0.mk (blk_below (fB BK347.out) hb); replace BK348 := Aside0.mk (blk_below (fB BK348.out) hb); replace HB := Aside0.mk (below_step (fW HB.out) hb); (try clear hb); (try clear hb2); (try clear hk); (try clear hi); have hnb34 := NB348_346.out; have hnc34 := NB346_348.out; have hnb35 := NB348_347.out; have hnc35 := NB347_348.out; have hcz36_0 : w33.cell? ⟨gb348, 0, none⟩ = some (.int .i64 5) := (blk_cell BK348.out 0).trans rfl; have hcz36_1 : w33.cell? ⟨gb348, 1, none⟩ = some (.string (⟨#[]⟩ : ByteArray)) := (blk_cell BK348.out 1).trans rfl; have hcz36_2 : w33.cell? ⟨gb348, 2, none⟩ = some (.int .i64 a1) := (blk_cell BK348.out 2).trans rfl; have hfz36_0 := blk_frozen BK348.out 0; have hfz36_1 := blk_frozen BK348.out 1; have hfz36_2 := blk_frozen BK348.out 2))
       go_meet
       case rel => exact ⟨_, (t351), (0), ((⟨#[]⟩ : ByteArray)), (0), (0), (0), (t350), oR, H', ⟨by have := HJ2.out; first | omega | exact Nat.le_refl _⟩, ⟨by refine fB (h := ?_); refine blk_far ?_ NB346_348.out _; refine fB (h := ?_); exact BK346.out⟩, ⟨by refine fB (h := ?_); refine blk_far ?_ NB347_348.out _; refine fB (h := ?_); exact BK347.out⟩, ⟨by refine fB (h := ?_); refine blk_put (cs := #[.int .i64 5, .string (⟨#[]⟩ : ByteArray), .int .i64 a1]) ?_ 1 _ rfl; refine fB (h := ?_); exact BK348.out⟩, ⟨fW HB.out⟩⟩
    ·replace c13 := Bool.eq_false_iff.mpr c13
     subst c13
     replace H := iF H
     have H' := Aside0.mk H
     clear H
     go_wp2
     go_loopg [8] kj2 (fun kq v8 w' => ∃ (x8_2 : Int), v8 = .int .i64 x8_2 ∧ Aside0 (gleberef7_field.l0 kq l0 a1 x8_2 5 (⟨#[]⟩ : ByteArray) a1 = some (r1, r2, r3, r4, r5, r6)) ∧ Aside0 (kq ≤ kj2) ∧ Aside0 (w'.heap[gb346]? = some (.cells #[.int .i64 0, .string (⟨#[]⟩ : ByteArray), .int .i64 0] 59 (0, 0))) ∧ Aside0 (w'.heap[gb347]? = some (.cells #[.int .i64 0, .int .i64 0] 54 (0, 0))) ∧ Aside0 (w'.heap[gb348]? = some (.cells #[.int .i64 5, .string (⟨#[]⟩ : ByteArray), .int .i64 a1] 59 (0, 0))) ∧ Aside0 (Below w.heap.size w w'))
     case atStart => exact ⟨(a1), oR, H', ⟨Nat.le_refl _⟩, ⟨fB BK346.out⟩, ⟨fB BK347.out⟩, ⟨fB BK348.out⟩, ⟨fW HB.out⟩⟩
     case round =>
      clear H'
      try clear c10; try clear c10b0; try clear c11; try clear c11b0; try clear c13; try clear c15; try clear c15b0; try clear c25; try clear c25b0; try clear c25b1; try clear hcz29_0; try clear hcz29_1; try clear hcz29_2; try clear hcz31_0; try clear hcz31_1; try clear hcz31_2; try clear hcz32_0; try clear hcz32_1; try clear hcz36_0; try clear hcz36_1; try clear hcz36_2; try clear hcz9_0; try clear hcz9_1; try clear hcz9_2; try clear hfz29_0; try clear hfz29_1; try clear hfz29_2; try clear hfz31_0; try clear hfz31_1; try clear hfz31_2; try clear hfz32_0; try clear hfz32_1; try clear hfz36_0; try clear hfz36_1; try clear hfz36_2; try clear hfz9_0; try clear hfz9_1; try clear hfz9_2; try clear hx349_0; try clear p349; try clear q349
      obtain ⟨x8_2, rfl, HA, HK2, BK346, BK347, BK348, HB⟩ := hrel
      cases gk with
      | zero => exact absurd HA.out (by simp [gleberef7_field.l0])
      | succ k2 =>
       have H := HA.out
       clear HA
       simp only [gleberef7_field.l0] at H
       by_cases c37 : x8_2 < (l0.length : Int)
       ·rw [if_pos c37] at H
        have c37b0 := decide_eq_true c37
        clear c37
        obtain ⟨c38, H⟩ := eT H
        have c38b0 := decide_eq_true c38
        clear c38
        by_cases c39 : (rd l0 x8_2) ≥ 32
        ·rw [if_pos c39] at H
         have c39b0 := decide_eq_true c39
         clear c39
         by_cases c40 : (rd l0 x8_2) ≤ 126
         ·rw [if_pos c40] at H
          have c40b0 := decide_eq_true c40
          clear c40
          by_cases c41 : (rd l0 x8_2) = 34
          ·rw [if_pos c41] at H
           have c41b0 := qT c41
           have c41b1 := nF c41
           clear c41
           obtain ⟨c42, H⟩ := eT H
           have c42b0 := eq_true c42
           have c42b1 := decide_eq_true c42
           clear c42
           obtain ⟨c43, H⟩ := eT H
           have c43b0 := eq_true c43
           have c43b1 := decide_eq_true c43
           clear c43
           obtain ⟨c44, H⟩ := eT H
           have c44b0 := eq_true c44
           have c44b1 := decide_eq_true c44
           clear c44
           have H' := Aside0.mk H
           clear H
           obtain ⟨ad355, rfl, hx355_0, p355, q355⟩ := aI HB HR0 (x8_2)
           obtain ⟨hx356_0, p356, q356⟩ := aJ HB HR0 (x8_2)
           obtain ⟨hx357_0, p357, q357⟩ := aJ HB HR0 (x8_2)
           obtain ⟨i045, hi045, _, hsz45, _⟩ := info_parts info5
           obtain ⟨A45, hcut45, hA45, hC45⟩ := print_mid_of (P := Tryd.prog) (Value.int .u8) 0 35 5 .i64 .i64 Tryd.underlying35 hi045 hsz45 (some ad355) c0 l0 a1 x8_2 oD oM oD HC0.out
           have HR358 := Aside0.mk (Kd.C_of_reads (h1 := fun _ => rfl) (hA45 _ (Kd.reads_of_C HR0.out)))
           have HC358 := Aside0.mk hC45
           clear hA45 hC45 hi045 hsz45
           have hcv46 := Kd.C_string (P := Tryd.prog) (A := A45) (c := (c0 - a1.toNat)) Tryd.underlying35 Tryd.underlying5 Tryd.underlying9 (Kd.C_below HR358.out HB.out)
           (try rw [XW.cut_len (l := l0) (a := a1) (b := x8_2) oM oM oM] at hcv46)
           (try simp only [Int.reduceToNat, Nat.sub_zero] at hcv46)
           have hcv46n := fun (n_ : Nat) => Kd.C_string (P := Tryd.prog) (A := A45) (c := (c0 - a1.toNat)) Tryd.underlying35 Tryd.underlying5 Tryd.underlying9 (Kd.C_drewN ((Kd.C_below HR358.out HB.out)) n_)
           (try rw [XW.cut_len (l := l0) (a := a1) (b := x8_2) oM oM oM] at hcv46n)
           (try simp only [Int.reduceToNat, Nat.sub_zero] at hcv46n)
           have hnb47 := NB348_346.out
           have hnc47 := NB346_348.out
           have hnb48 := NB348_347.out
           have hnc48 := NB347_348.out
           have hcz49_0 : wr.cell? ⟨gb348, 0, none⟩ = some (.int .i64 5) := (blk_cell BK348.out 0).trans rfl
           have hcz49_1 : wr.cell? ⟨gb348, 1, none⟩ = some (.string (⟨#[]⟩ : ByteArray)) := (blk_cell BK348.out 1).trans rfl
           have hcz49_2 : wr.cell? ⟨gb348, 2, none⟩ = some (.int .i64 a1) := (blk_cell BK348.out 2).trans rfl
           have hfz49_0 := blk_frozen BK348.out 0
           have hfz49_1 := blk_frozen BK348.out 1
           have hfz49_2 := blk_frozen BK348.out 2
           go_wp2
           go_meet
           case rel => exact ⟨_, (x8_2), (0), ((⟨#[]⟩ : ByteArray)), (0), (0), (0), (strOfNums ((l0.take (x8_2 : Int).toNat).drop (a1 : Int).toNat)), oR, H', ⟨by have := HJ2.out; have := HK2.out; first | omega | exact Nat.le_refl _⟩, ⟨by refine fB (h := ?_); refine blk_far ?_ NB346_348.out _; refine fB (h := ?_); exact BK346.out⟩, ⟨by refine fB (h := ?_); refine blk_far ?_ NB347_348.out _; refine fB (h := ?_); exact BK347.out⟩, ⟨by refine fB (h := ?_); refine blk_put (cs := #[.int .i64 5, .string (⟨#[]⟩ : ByteArray), .int .i64 a1]) ?_ 1 _ rfl; refine fB (h := ?_); exact BK348.out⟩, ⟨fW HB.out⟩⟩
          ·rw [if_neg c41] at H
           have c41b0 : ((rd l0 x8_2) == 34) = false := beq_eq_false_iff_ne.mpr c41
           have c41b1 : ((rd l0 x8_2) != 34) = true := bne_iff_ne.mpr c41
           by_cases c50 : (rd l0 x8_2) = 44
           ·rw [if_pos c50] at H
            have c50b0 := qT c50
            have c50b1 := nF c50
            clear c50
            obtain ⟨c51, H⟩ := eT H
            have c51b0 := eq_true c51
            have c51b1 := decide_eq_true c51
            clear c51
            obtain ⟨c52, H⟩ := eT H
            have c52b0 := eq_true c52
            have c52b1 := decide_eq_true c52
            clear c52
            obtain ⟨c53, H⟩ := eT H
            have c53b0 := eq_true c53
            have c53b1 := decide_eq_true c53
            clear c53
            have H' := Aside0.mk H
            clear H
            obtain ⟨ad355, rfl, hx355_0, p355, q355⟩ := aI HB HR0 (x8_2)
            obtain ⟨hx356_0, p356, q356⟩ := aJ HB HR0 (x8_2)
            obtain ⟨hx357_0, p357, q357⟩ := aJ HB HR0 (x8_2)
            obtain ⟨hx359_0, p359, q359⟩ := aJ HB HR0 (x8_2)
            obtain ⟨i054, hi054, _, hsz54, _⟩ := info_parts info5
            obtain ⟨A54, hcut54, hA54, hC54⟩ := print_mid_of (P := Tryd.prog) (Value.int .u8) 0 35 5 .i64 .i64 Tryd.underlying35 hi054 hsz54 (some ad355) c0 l0 a1 x8_2 oD oM oD HC0.out
            have HR360 := Aside0.mk (Kd.C_of_reads (h1 := fun _ => rfl) (hA54 _ (Kd.reads_of_C HR0.out)))
            have HC360 := Aside0.mk hC54
            clear hA54 hC54 hi054 hsz54
            have hcv55 := Kd.C_string (P := Tryd.prog) (A := A54) (c := (c0 - a1.toNat)) Tryd.underlying35 Tryd.underlying5 Tryd.underlying9 (Kd.C_below HR360.out HB.out)
            (try rw [XW.cut_len (l := l0) (a := a1) (b := x8_2) oM oM oM] at hcv55)
            (try simp only [Int.reduceToNat, Nat.sub_zero] at hcv55)
            have hcv55n := fun (n_ : Nat) => Kd.C_string (P := Tryd.prog) (A := A54) (c := (c0 - a1.toNat)) Tryd.underlying35 Tryd.underlying5 Tryd.underlying9 (Kd.C_drewN ((Kd.C_below HR360.out HB.out)) n_)
            (try rw [XW.cut_len (l := l0) (a := a1) (b := x8_2) oM oM oM] at hcv55n)
            (try simp only [Int.reduceToNat, Nat.sub_zero] at hcv55n)
            have hnb56 := NB348_346.out
            have hnc56 := NB346_348.out
            have hnb57 := NB348_347.out
            have hnc57 := NB347_348.out
            have hcz58_0 : wr.cell? ⟨gb348, 0, none⟩ = some (.int .i64 5) := (blk_cell BK348.out 0).trans rfl
            have hcz58_1 : wr.cell? ⟨gb348, 1, none⟩ = some (.string (⟨#[]⟩ : ByteArray)) := (blk_cell BK348.out 1).trans rfl
            have hcz58_2 : wr.cell? ⟨gb348, 2, none⟩ = some (.int .i64 a1) := (blk_cell BK348.out 2).trans rfl
            have hfz58_0 := blk_frozen BK348.out 0
            have hfz58_1 := blk_frozen BK348.out 1
            have hfz58_2 := blk_frozen BK348.out 2
            go_wp2
            go_meet
            case rel => exact ⟨_, (x8_2), (0), ((⟨#[]⟩ : ByteArray)), (0), (0), (0), (strOfNums ((l0.take (x8_2 : Int).toNat).drop (a1 : Int).toNat)), oR, H', ⟨by have := HJ2.out; have := HK2.out; first | omega | exact Nat.le_refl _⟩, ⟨by refine fB (h := ?_); refine blk_far ?_ NB346_348.out _; refine fB (h := ?_); exact BK346.out⟩, ⟨by refine fB (h := ?_); refine blk_far ?_ NB347_348.out _; refine fB (h := ?_); exact BK347.out⟩, ⟨by refine fB (h := ?_); refine blk_put (cs := #[.int .i64 5, .string (⟨#[]⟩ : ByteArray), .int .i64 a1]) ?_ 1 _ rfl; refine fB (h := ?_); exact BK348.out⟩, ⟨fW HB.out⟩⟩
           ·rw [if_neg c50] at H
            have c50b0 : ((rd l0 x8_2) == 44) = false := beq_eq_false_iff_ne.mpr c50
            have c50b1 : ((rd l0 x8_2) != 44) = true := bne_iff_ne.mpr c50
            have H' := Aside0.mk H
            clear H
            obtain ⟨ad355, rfl, hx355_0, p355, q355⟩ := aI HB HR0 (x8_2)
            obtain ⟨hx356_0, p356, q356⟩ := aJ HB HR0 (x8_2)
            obtain ⟨hx357_0, p357, q357⟩ := aJ HB HR0 (x8_2)
            obtain ⟨hx359_0, p359, q359⟩ := aJ HB HR0 (x8_2)
            go_wp2
            go_roundg k2
            case measure => have := HJ2.out; have := HK2.out; omega
            case rel => exact ⟨(wrap64 (x8_2 + 1)), oR, H', ⟨by have := HJ2.out; have := HK2.out; omega⟩, ⟨fB BK346.out⟩, ⟨fB BK347.out⟩, ⟨fB BK348.out⟩, ⟨fW HB.out⟩⟩
         ·rw [if_neg c40] at H
          have c40b0 := decide_eq_false c40
          clear c40
          obtain ⟨c59, H⟩ := eT H
          have c59b0 := eq_true c59
          have c59b1 := decide_eq_true c59
          clear c59
          obtain ⟨c60, H⟩ := eT H
          have c60b0 := eq_true c60
          have c60b1 := decide_eq_true c60
          clear c60
          obtain ⟨c61, H⟩ := eT H
          have c61b0 := eq_true c61
          have c61b1 := decide_eq_true c61
          clear c61
          have H' := Aside0.mk H
          clear H
          obtain ⟨ad355, rfl, hx355_0, p355, q355⟩ := aI HB HR0 (x8_2)
          obtain ⟨hx356_0, p356, q356⟩ := aJ HB HR0 (x8_2)
          obtain ⟨i062, hi062, _, hsz62, _⟩ := info_parts info5
          obtain ⟨A62, hcut62, hA62, hC62⟩ := print_mid_of (P := Tryd.prog) (Value.int .u8) 0 35 5 .i64 .i64 Tryd.underlying35 hi062 hsz62 (some ad355) c0 l0 a1 x8_2 oD oM oD HC0.out
          have HR361 := Aside0.mk (Kd.C_of_reads (h1 := fun _ => rfl) (hA62 _ (Kd.reads_of_C HR0.out)))
          have HC361 := Aside0.mk hC62
          clear hA62 hC62 hi062 hsz62
          have hcv63 := Kd.C_string (P := Tryd.prog) (A := A62) (c := (c0 - a1.toNat)) Tryd.underlying35 Tryd.underlying5 Tryd.underlying9 (Kd.C_below HR361.out HB.out)
          (try rw [XW.cut_len (l := l0) (a := a1) (b := x8_2) oM oM oM] at hcv63)
          (try simp only [Int.reduceToNat, Nat.sub_zero] at hcv63)
          have hcv63n := fun (n_ : Nat) => Kd.C_string (P := Tryd.prog) (A := A62) (c := (c0 - a1.toNat)) Tryd.underlying35 Tryd.underlying5 Tryd.underlying9 (Kd.C_drewN ((Kd.C_below HR361.out HB.out)) n_)
          (try rw [XW.cut_len (l := l0) (a := a1) (b := x8_2) oM oM oM] at hcv63n)
          (try simp only [Int.reduceToNat, Nat.sub_zero] at hcv63n)
          have hnb64 := NB348_346.out
          have hnc64 := NB346_348.out
          have hnb65 := NB348_347.out
          have hnc65 := NB347_348.out
          have hcz66_0 : wr.cell? ⟨gb348, 0, none⟩ = some (.int .i64 5) := (blk_cell BK348.out 0).trans rfl
          have hcz66_1 : wr.cell? ⟨gb348, 1, none⟩ = some (.string (⟨#[]⟩ : ByteArray)) := (blk_cell BK348.out 1).trans rfl
          have hcz66_2 : wr.cell? ⟨gb348, 2, none⟩ = some (.int .i64 a1) := (blk_cell BK348.out 2).trans rfl
          have hfz66_0 := blk_frozen BK348.out 0
          have hfz66_1 := blk_frozen BK348.out 1
          have hfz66_2 := blk_frozen BK348.out 2
          go_wp2
          go_meet
          case rel => exact ⟨_, (x8_2), (0), ((⟨#[]⟩ : ByteArray)), (0), (0), (0), (strOfNums ((l0.take (x8_2 : Int).toNat).drop (a1 : Int).toNat)), oR, H', ⟨by have := HJ2.out; have := HK2.out; first | omega | exact Nat.le_refl _⟩, ⟨by refine fB (h := ?_); refine blk_far ?_ NB346_348.out _; refine fB (h := ?_); exact BK346.out⟩, ⟨by refine fB (h := ?_); refine blk_far ?_ NB347_348.out _; refine fB (h := ?_); exact BK347.out⟩, ⟨by refine fB (h := ?_); refine blk_put (cs := #[.int .i64 5, .string (⟨#[]⟩ : ByteArray), .int .i64 a1]) ?_ 1 _ rfl; refine fB (h := ?_); exact BK348.out⟩, ⟨fW HB.out⟩⟩
        ·rw [if_neg c39] at H
         have c39b0 := decide_eq_false c39
         clear c39
         obtain ⟨c67, H⟩ := eT H
         have c67b0 := eq_true c67
         have c67b1 := decide_eq_true c67
         clear c67
         obtain ⟨c68, H⟩ := eT H
         have c68b0 := eq_true c68
         have c68b1 := decide_eq_true c68
         clear c68
         obtain ⟨c69, H⟩ := eT H
         have c69b0 := eq_true c69
         have c69b1 := decide_eq_true c69
         clear c69
         have H' := Aside0.mk H
         clear H
         obtain ⟨ad355, rfl, hx355_0, p355, q355⟩ := aI HB HR0 (x8_2)
         obtain ⟨i070, hi070, _, hsz70, _⟩ := info_parts info5
         obtain ⟨A70, hcut70, hA70, hC70⟩ := print_mid_of (P := Tryd.prog) (Value.int .u8) 0 35 5 .i64 .i64 Tryd.underlying35 hi070 hsz70 (some ad355) c0 l0 a1 x8_2 oD oM oD HC0.out
         have HR362 := Aside0.mk (Kd.C_of_reads (h1 := fun _ => rfl) (hA70 _ (Kd.reads_of_C HR0.out)))
         have HC362 := Aside0.mk hC70
         clear hA70 hC70 hi070 hsz70
         have hcv71 := Kd.C_string (P := Tryd.prog) (A := A70) (c := (c0 - a1.toNat)) Tryd.underlying35 Tryd.underlying5 Tryd.underlying9 (Kd.C_below HR362.out HB.out)
         (try rw [XW.cut_len (l := l0) (a := a1) (b := x8_2) oM oM oM] at hcv71)
         (try simp only [Int.reduceToNat, Nat.sub_zero] at hcv71)
         have hcv71n := fun (n_ : Nat) => Kd.C_string (P := Tryd.prog) (A := A70) (c := (c0 - a1.toNat)) Tryd.underlying35 Tryd.underlying5 Tryd.underlying9 (Kd.C_drewN ((Kd.C_below HR362.out HB.out)) n_)
         (try rw [XW.cut_len (l := l0) (a := a1) (b := x8_2) oM oM oM] at hcv71n)
         (try simp only [Int.reduceToNat, Nat.sub_zero] at hcv71n)
         have hnb72 := NB348_346.out
         have hnc72 := NB346_348.out
         have hnb73 := NB348_347.out
         have hnc73 := NB347_348.out
         have hcz74_0 : wr.cell? ⟨gb348, 0, none⟩ = some (.int .i64 5) := (blk_cell BK348.out 0).trans rfl
         have hcz74_1 : wr.cell? ⟨gb348, 1, none⟩ = some (.string (⟨#[]⟩ : ByteArray)) := (blk_cell BK348.out 1).trans rfl
         have hcz74_2 : wr.cell? ⟨gb348, 2, none⟩ = some (.int .i64 a1) := (blk_cell BK348.out 2).trans rfl
         have hfz74_0 := blk_frozen BK348.out 0
         have hfz74_1 := blk_frozen BK348.out 1
         have hfz74_2 := blk_frozen BK348.out 2
         go_wp2
         go_meet
         case rel => exact ⟨_, (x8_2), (0), ((⟨#[]⟩ : ByteArray)), (0), (0), (0), (strOfNums ((l0.take (x8_2 : Int).toNat).drop (a1 : Int).toNat)), oR, H', ⟨by have := HJ2.out; have := HK2.out; first | omega | exact Nat.le_refl _⟩, ⟨by refine fB (h := ?_); refine blk_far ?_ NB346_348.out _; refine fB (h := ?_); exact BK346.out⟩, ⟨by refine fB (h := ?_); refine blk_far ?_ NB347_348.out _; refine fB (h := ?_); exact BK347.out⟩, ⟨by refine fB (h := ?_); refine blk_put (cs := #[.int .i64 5, .string (⟨#[]⟩ : ByteArray), .int .i64 a1]) ?_ 1 _ rfl; refine fB (h := ?_); exact BK348.out⟩, ⟨fW HB.out⟩⟩
       ·rw [if_neg c37] at H
        have c37b0 := decide_eq_false c37
        clear c37
        obtain ⟨c75, H⟩ := eT H
        have c75b0 := eq_true c75
        have c75b1 := decide_eq_true c75
        clear c75
        obtain ⟨c76, H⟩ := eT H
        have c76b0 := eq_true c76
        have c76b1 := decide_eq_true c76
        clear c76
        obtain ⟨c77, H⟩ := eT H
        have c77b0 := eq_true c77
        have c77b1 := decide_eq_true c77
        clear c77
        have H' := Aside0.mk H
        clear H
        obtain ⟨i078, hi078, _, hsz78, _⟩ := info_parts info5
        obtain ⟨A78, hcut78, hA78, hC78⟩ := print_mid_of (P := Tryd.prog) (Value.int .u8) 0 35 5 .i64 .i64 Tryd.underlying35 hi078 hsz78 A0 c0 l0 a1 x8_2 oD oM oD HC0.out
        have HR363 := Aside0.mk (Kd.C_of_reads (h1 := fun _ => rfl) (hA78 _ (Kd.reads_of_C HR0.out)))
        have HC363 := Aside0.mk hC78
        clear hA78 hC78 hi078 hsz78
        have hcv79 := Kd.C_string (P := Tryd.prog) (A := A78) (c := (c0 - a1.toNat)) Tryd.underlying35 Tryd.underlying5 Tryd.underlying9 (Kd.C_below HR363.out HB.out)
        (try rw [XW.cut_len (l := l0) (a := a1) (b := x8_2) oM oM oM] at hcv79)
        (try simp only [Int.reduceToNat, Nat.sub_zero] at hcv79)
        have hcv79n := fun (n_ : Nat) => Kd.C_string (P := Tryd.prog) (A := A78) (c := (c0 - a1.toNat)) Tryd.underlying35 Tryd.underlying5 Tryd.underlying9 (Kd.C_drewN ((Kd.C_below HR363.out HB.out)) n_)
        (try rw [XW.cut_len (l := l0) (a := a1) (b := x8_2) oM oM oM] at hcv79n)
        (try simp only [Int.reduceToNat, Nat.sub_zero] at hcv79n)
        have hnb80 := NB348_346.out
        have hnc80 := NB346_348.out
        have hnb81 := NB348_347.out
        have hnc81 := NB347_348.out
        have hcz82_0 : wr.cell? ⟨gb348, 0, none⟩ = some (.int .i64 5) := (blk_cell BK348.out 0).trans rfl
        have hcz82_1 : wr.cell? ⟨gb348, 1, none⟩ = some (.string (⟨#[]⟩ : ByteArray)) := (blk_cell BK348.out 1).trans rfl
        have hcz82_2 : wr.cell? ⟨gb348, 2, none⟩ = some (.int .i64 a1) := (blk_cell BK348.out 2).trans rfl
        have hfz82_0 := blk_frozen BK348.out 0
        have hfz82_1 := blk_frozen BK348.out 1
        have hfz82_2 := blk_frozen BK348.out 2
        go_wp2
        go_meet
        case rel => exact ⟨_, (x8_2), (0), ((⟨#[]⟩ : ByteArray)), (0), (0), (0), (strOfNums ((l0.take (x8_2 : Int).toNat).drop (a1 : Int).toNat)), oR, H', ⟨by have := HJ2.out; have := HK2.out; first | omega | exact Nat.le_refl _⟩, ⟨by refine fB (h := ?_); refine blk_far ?_ NB346_348.out _; refine fB (h := ?_); exact BK346.out⟩, ⟨by refine fB (h := ?_); refine blk_far ?_ NB347_348.out _; refine fB (h := ?_); exact BK347.out⟩, ⟨by refine fB (h := ?_); refine blk_put (cs := #[.int .i64 5, .string (⟨#[]⟩ : ByteArray), .int .i64 a1]) ?_ 1 _ rfl; refine fB (h := ?_); exact BK348.out⟩, ⟨fW HB.out⟩⟩
   case rest =>
    clear HC12
    try clear c10; try clear c10b0; try clear c11; try clear c11b0; try clear c13; try clear c15; try clear c15b0; try clear c25; try clear c25b0; try clear c25b1; try clear c37; try clear c37b0; try clear c38; try clear c38b0; try clear c39; try clear c39b0; try clear c40; try clear c40b0; try clear c41; try clear c41b0; try clear c41b1; try clear c42; try clear c42b0; try clear c42b1; try clear c43; try clear c43b0; try clear c43b1; try clear c44; try clear c44b0; try clear c44b1; try clear hcv46; try clear c50; try clear c50b0; try clear c50b1; try clear c51; try clear c51b0; try clear c51b1; try clear c52; try clear c52b0; try clear c52b1; try clear c53; try clear c53b0; try clear c53b1; try clear hcv55; try clear c59; try clear c59b0; try clear c59b1; try clear c60; try clear c60b0; try clear c60b1; try clear c61; try clear c61b0; try clear c61b1; try clear hcv63; try clear c67; try clear c67b0; try clear c67b1; try clear c68; try clear c68b0; try clear c68b1; try clear c69; try clear c69b0; try clear c69b1; try clear hcv71; try clear c75; try clear c75b0; try clear c75b1; try clear c76; try clear c76b0; try clear c76b1; try clear c77; try clear c77b0; try clear c77b1; try clear hcv79; try clear hcz29_0; try clear hcz29_1; try clear hcz29_2; try clear hcz31_0; try clear hcz31_1; try clear hcz31_2; try clear hcz32_0; try clear hcz32_1; try clear hcz36_0; try clear hcz36_1; try clear hcz36_2; try clear hcz49_0; try clear hcz49_1; try clear hcz49_2; try clear hcz58_0; try clear hcz58_1; try clear hcz58_2; try clear hcz66_0; try clear hcz66_1; try clear hcz66_2; try clear hcz74_0; try clear hcz74_1; try clear hcz74_2; try clear hcz82_0; try clear hcz82_1; try clear hcz82_2; try clear hcz9_0; try clear hcz9_1; try clear hcz9_2; try clear hfz29_0; try clear hfz29_1; try clear hfz29_2; try clear hfz31_0; try clear hfz31_1; try clear hfz31_2; try clear hfz32_0; try clear hfz32_1; try clear hfz36_0; try clear hfz36_1; try clear hfz36_2; try clear hfz49_0; try clear hfz49_1; try clear hfz49_2; try clear hfz58_0; try clear hfz58_1; try clear hfz58_2; try clear hfz66_0; try clear hfz66_1; try clear hfz66_2; try clear hfz74_0; try clear hfz74_1; try clear hfz74_2; try clear hfz82_0; try clear hfz82_1; try clear hfz82_2; try clear hfz9_0; try clear hfz9_1; try clear hfz9_2; try clear hx349_0; try clear hx355_0; try clear hx356_0; try clear hx357_0; try clear hx359_0; try clear p349; try clear p355; try clear p356; try clear p357; try clear p359; try clear q349; try clear q355; try clear q356; try clear q357; try clear q359
    obtain ⟨kq, x8_11, x347000_11, x347001_11, x347002_11, x348000_11, x348001_11, x349001_11, rfl, HA, HJ11, BK346, BK347, BK348, HB⟩ := hcut
    cases kq with
    | zero => exact absurd HA.out (by simp [gleberef7_field.j2])
    | succ kj11 =>
     have H := HA.out
     clear HA
     simp only [gleberef7_field.j2] at H
     have HC83 := Aside0.mk H
     clear H
     go_upto_region 13 with (fail)
     go_cut [112] (fun v112 wc => ∃ (kq : Nat) (x112_82 : Bool), v112 = .bool x112_82 ∧ Aside0 (gleberef7_field.j3 kq a1 x8_11 x112_82 5 x349001_11 a1 = some (r1, r2, r3, r4, r5, r6)) ∧ Aside0 (kq ≤ kj11) ∧ Aside0 (wc.heap[gb346]? = some (.cells #[.int .i64 x347000_11, .string x347001_11, .int .i64 x347002_11] 59 (0, 0))) ∧ Aside0 (wc.heap[gb347]? = some (.cells #[.int .i64 x348000_11, .int .i64 x348001_11] 54 (0, 0))) ∧ Aside0 (wc.heap[gb348]? = some (.cells #[.int .i64 5, .string x349001_11, .int .i64 a1] 59 (0, 0))) ∧ Aside0 (Below w.heap.size w wc))
     case first =>
      have H := HC83.out
      clear HC83
      by_cases c84 : x8_11 < (l0.length : Int)
      ·rw [if_pos c84] at H
       have c84b0 := decide_eq_true c84
       clear c84
       (first | rw [c84b0] | (simp only [i64_w, i32_w]; rw [c84b0]) | skip)
       obtain ⟨c85, H⟩ := eT H
       have c85b0 := decide_eq_true c85
       clear c85
       by_cases c86 : (rd l0 x8_11) = 44
       ·rw [if_pos c86] at H
        have c86b0 := qT c86
        have c86b1 := nF c86
        clear c86
        have H' := Aside0.mk H
        clear H
        obtain ⟨ad364, rfl, hx364_0, p364, q364⟩ := aI HB HR0 (x8_11)
        go_wp2
        go_meet
        case rel => exact ⟨_, (false), oR, H', ⟨by have := HJ2.out; have := HJ11.out; first | omega | exact Nat.le_refl _⟩, ⟨fB BK346.out⟩, ⟨fB BK347.out⟩, ⟨fB BK348.out⟩, ⟨fW HB.out⟩⟩
       ·rw [if_neg c86] at H
        have c86b0 : ((rd l0 x8_11) == 44) = false := beq_eq_false_iff_ne.mpr c86
        have c86b1 : ((rd l0 x8_11) != 44) = true := bne_iff_ne.mpr c86
        by_cases c87 : (rd l0 x8_11) = 10
        ·rw [if_pos c87] at H
         have c87b0 := qT c87
         have c87b1 := nF c87
         clear c87
         have H' := Aside0.mk H
         clear H
         obtain ⟨ad364, rfl, hx364_0, p364, q364⟩ := aI HB HR0 (x8_11)
         obtain ⟨hx365_0, p365, q365⟩ := aJ HB HR0 (x8_11)
         go_wp2
         go_meet
         case rel => exact ⟨_, (false), oR, H', ⟨by have := HJ2.out; have := HJ11.out; first | omega | exact Nat.le_refl _⟩, ⟨fB BK346.out⟩, ⟨fB BK347.out⟩, ⟨fB BK348.out⟩, ⟨fW HB.out⟩⟩
        ·rw [if_neg c87] at H
         have c87b0 : ((rd l0 x8_11) == 10) = false := beq_eq_false_iff_ne.mpr c87
         have c87b1 : ((rd l0 x8_11) != 10) = true := bne_iff_ne.mpr c87
         have H' := Aside0.mk H
         clear H
         obtain ⟨ad364, rfl, hx364_0, p364, q364⟩ := aI HB HR0 (x8_11)
         obtain ⟨hx365_0, p365, q365⟩ := aJ HB HR0 (x8_11)
         obtain ⟨hx366_0, p366, q366⟩ := aJ HB HR0 (x8_11)
         go_wp2
         go_meet
         case rel => exact ⟨_, (((rd l0 x8_11) != 13)), oR, H', ⟨by have := HJ2.out; have := HJ11.out; first | omega | exact Nat.le_refl _⟩, ⟨fB BK346.out⟩, ⟨fB BK347.out⟩, ⟨fB BK348.out⟩, ⟨fW HB.out⟩⟩
      ·rw [if_neg c84] at H
       have c84b0 := decide_eq_false c84
       clear c84
       (first | rw [c84b0] | (simp only [i64_w, i32_w]; rw [c84b0]) | skip)
       have H' := Aside0.mk H
       clear H
       go_wp2
       go_meet
       case rel => exact ⟨_, (false), oR, H', ⟨by have := HJ2.out; have := HJ11.out; first | omega | exact Nat.le_refl _⟩, ⟨fB BK346.out⟩, ⟨fB BK347.out⟩, ⟨fB BK348.out⟩, ⟨fW HB.out⟩⟩
     case rest =>
      clear HC83
      try clear c10; try clear c10b0; try clear c11; try clear c11b0; try clear c13; try clear c15; try clear c15b0; try clear c25; try clear c25b0; try clear c25b1; try clear c37; try clear c37b0; try clear c38; try clear c38b0; try clear c39; try clear c39b0; try clear c40; try clear c40b0; try clear c41; try clear c41b0; try clear c41b1; try clear c42; try clear c42b0; try clear c42b1; try clear c43; try clear c43b0; try clear c43b1; try clear c44; try clear c44b0; try clear c44b1; try clear hcv46; try clear c50; try clear c50b0; try clear c50b1; try clear c51; try clear c51b0; try clear c51b1; try clear c52; try clear c52b0; try clear c52b1; try clear c53; try clear c53b0; try clear c53b1; try clear hcv55; try clear c59; try clear c59b0; try clear c59b1; try clear c60; try clear c60b0; try clear c60b1; try clear c61; try clear c61b0; try clear c61b1; try clear hcv63; try clear c67; try clear c67b0; try clear c67b1; try clear c68; try clear c68b0; try clear c68b1; try clear c69; try clear c69b0; try clear c69b1; try clear hcv71; try clear c75; try clear c75b0; try clear c75b1; try clear c76; try clear c76b0; try clear c76b1; try clear c77; try clear c77b0; try clear c77b1; try clear hcv79; try clear c84; try clear c84b0; try clear c85; try clear c85b0; try clear c86; try clear c86b0; try clear c86b1; try clear c87; try clear c87b0; try clear c87b1; try clear hcz29_0; try clear hcz29_1; try clear hcz29_2; try clear hcz31_0; try clear hcz31_1; try clear hcz31_2; try clear hcz32_0; try clear hcz32_1; try clear hcz36_0; try clear hcz36_1; try clear hcz36_2; try clear hcz49_0; try clear hcz49_1; try clear hcz49_2; try clear hcz58_0; try clear hcz58_1; try clear hcz58_2; try clear hcz66_0; try clear hcz66_1; try clear hcz66_2; try clear hcz74_0; try clear hcz74_1; try clear hcz74_2; try clear hcz82_0; try clear hcz82_1; try clear hcz82_2; try clear hcz9_0; try clear hcz9_1; try clear hcz9_2; try clear hfz29_0; try clear hfz29_1; try clear hfz29_2; try clear hfz31_0; try clear hfz31_1; try clear hfz31_2; try clear hfz32_0; try clear hfz32_1; try clear hfz36_0; try clear hfz36_1; try clear hfz36_2; try clear hfz49_0; try clear hfz49_1; try clear hfz49_2; try clear hfz58_0; try clear hfz58_1; try clear hfz58_2; try clear hfz66_0; try clear hfz66_1; try clear hfz66_2; try clear hfz74_0; try clear hfz74_1; try clear hfz74_2; try clear hfz82_0; try clear hfz82_1; try clear hfz82_2; try clear hfz9_0; try clear hfz9_1; try clear hfz9_2; try clear hx349_0; try clear hx355_0; try clear hx356_0; try clear hx357_0; try clear hx359_0; try clear hx364_0; try clear hx365_0; try clear hx366_0; try clear p349; try clear p355; try clear p356; try clear p357; try clear p359; try clear p364; try clear p365; try clear p366; try clear q349; try clear q355; try clear q356; try clear q357; try clear q359; try clear q364; try clear q365; try clear q366
      obtain ⟨kq, x112_82, rfl, HA, HJ82, BK346, BK347, BK348, HB⟩ := hcut
      cases kq with
      | zero => exact absurd HA.out (by simp [gleberef7_field.j3])
      | succ kj82 =>
       have H := HA.out
       clear HA
       simp only [gleberef7_field.j3] at H
       by_cases c88 : x112_82 = true
       ·subst c88
        replace H := iT H
        obtain ⟨⟨t367, t368⟩, A890, H⟩ := bS H
        dsimp only at H
        have A89 := Aside0.mk A890
        clear A890
        simp only [Option.some.injEq, Prod.mk.injEq] at H
        obtain ⟨rfl, rfl, rfl, rfl, rfl, rfl⟩ := H
        try go_wp2
        have n0_ := Aside0.mk (blk_drew BK346.out)
        have n1_ := Aside0.mk (blk_drew BK347.out)
        have n2_ := Aside0.mk (blk_drew BK348.out)
        have n3_ := Aside0.mk (below_drew1 HB.out)
        clear BK346
        clear BK347
        clear BK348
        clear HB
        have BK346 := n0_
        have BK347 := n1_
        have BK348 := n2_
        have HB := n3_
        clear n0_ n1_ n2_ n3_
        refine start_ (n := 6) (S := fun w' => w'.cell? ⟨gb348, 0, none⟩ = some (.int .i64 5) ∧ w'.cell? ⟨gb348, 1, none⟩ = some (.string x349001_11) ∧ w'.cell? ⟨gb348, 2, none⟩ = some (.int .i64 a1)) (ds := []) #[false, false, false, false, false, false] (by kernel_rfl) rfl rfl ⟨(blk_cell BK348.out 0).trans rfl, (blk_cell BK348.out 1).trans rfl, (blk_cell BK348.out 2).trans rfl⟩ (fun hHeld => ?_)
        generalize wc.drew = w90 at BK346 BK347 BK348 HB hHeld ⊢
        refine pure_ (i := 1) (N := some 114) (v := ?_) (a' := ?_) #[false, true, false, false, false, false] rfl rfl (by kernel_rfl) (fun _ _ _ h => h) (Or.inl ⟨by rfl, ?_⟩) ?_ ?_
        rotate_left
        ·intro w'
         go_simp
         with_reducible rfl
        rotate_left
        ·refine sP (h := ?_)
         rfl
        refine take_ (i := 0) (N := some 113) (v := ?_) (a' := ?_) #[true, true, false, false, false, false] rfl rfl (by kernel_rfl) (fun _ _ _ h => h) (Or.inl ⟨by rfl, ?_⟩) hHeld ?_ ?_
        rotate_left
        ·rintro w' ⟨s0, s1, s2⟩
         go_simp
         with_reducible rfl
        rotate_left
        ·refine sP (h := ?_)
         rfl
        refine one_ (i := 2) (N := some 115) #[true, true, true, false, false, false] rfl rfl (by kernel_rfl) (by decide) (fun K hK => ?_)
        refine goes_ Tryd.func60 (by kernel_rfl) rfl #[.int .i64 x8_11] (by rfl) rfl rfl oA ?_
        with_reducible refine (gleberef7_syntax.calls x8_11 t367 t368 _ A89.out).mono ?_
        rintro e w91 ⟨rfl, hb⟩
        refine ⟨_, rfl, ?_⟩
        have n0_ := Aside0.mk (blk_below (fB BK346.out) hb)
        have n1_ := Aside0.mk (blk_below (fB BK347.out) hb)
        have n2_ := Aside0.mk (blk_below (fB BK348.out) hb)
        have n3_ := Aside0.mk (below_step (fW HB.out) hb)
        clear BK346
        clear BK347
        clear BK348
        clear HB
        have BK346 := n0_
        have BK347 := n1_
        have BK348 := n2_
        have HB := n3_
        clear n0_ n1_ n2_ n3_
        (try clear hb)
        (try clear hb2)
        (try clear hk)
        (try clear hi)
        refine hK.out _ _ ⟨(blk_cell BK348.out 0).trans rfl, (blk_cell BK348.out 1).trans rfl, (blk_cell BK348.out 2).trans rfl⟩ (fun hHeld => ?_)
        clear hK K
        refine norm_ (a' := ?_) ?_ ?_
        rotate_left
        ·show Act.put _ (some 115) _ = _
         refine sP (h := ?_)
         rfl
        refine one_ (i := 3) (N := none) #[true, true, true, true, false, false] rfl rfl (by kernel_rfl) (by decide) (fun K hK => ?_)
        have hs92 : w91.cell? ⟨gb346, 0, none⟩ = some (.int .i64 x347000_11) := (blk_cell BK346.out 0).trans rfl
        have hfs92 := blk_frozen BK346.out 0
        have hns92_1 := NB347_346.out
        have hns92_2 := NB348_346.out
        have hms92_1 := NB346_347.out
        have hms92_2 := NB346_348.out
        have hs93 : w91.cell? ⟨gb346, 1, none⟩ = some (.string x347001_11) := (blk_cell BK346.out 1).trans rfl
        have hfs93 := blk_frozen BK346.out 1
        have hns93_1 := NB347_346.out
        have hns93_2 := NB348_346.out
        have hms93_1 := NB346_347.out
        have hms93_2 := NB346_348.out
        have hs94 : w91.cell? ⟨gb346, 2, none⟩ = some (.int .i64 x347002_11) := (blk_cell BK346.out 2).trans rfl
        have hfs94 := blk_frozen BK346.out 2
        have hns94_1 := NB347_346.out
        have hns94_2 := NB348_346.out
        have hms94_1 := NB346_347.out
        have hms94_2 := NB346_348.out
        refine skip_ (w1 := ?_) (by rfl) rfl ?_ ?_
        rotate_left
        ·go_simp
         rfl
        refine hK.out _ _ ⟨((cell_far (p := ⟨gb346, _, none⟩) NB348_346.out _).trans (((cell_far (p := ⟨gb346, _, none⟩) NB348_346.out _).trans (((cell_far (p := ⟨gb346, _, none⟩) NB348_346.out _).trans (hHeld.1)))))), ((cell_far (p := ⟨gb346, _, none⟩) NB348_346.out _).trans (((cell_far (p := ⟨gb346, _, none⟩) NB348_346.out _).trans (((cell_far (p := ⟨gb346, _, none⟩) NB348_346.out _).trans (hHeld.2.1)))))), ((cell_far (p := ⟨gb346, _, none⟩) NB348_346.out _).trans (((cell_far (p := ⟨gb346, _, none⟩) NB348_346.out _).trans (((cell_far (p := ⟨gb346, _, none⟩) NB348_346.out _).trans (hHeld.2.2))))))⟩ (fun hHeld => ?_)
        clear hK K
        refine pure_ (i := 4) (N := some 5) (v := ?_) (a' := ?_) #[true, true, true, true, true, false] rfl rfl (by kernel_rfl) (fun _ _ _ h => h) (Or.inl ⟨by rfl, ?_⟩) ?_ ?_
        rotate_left
        ·intro w'
         go_simp
         with_reducible rfl
        rotate_left
        ·refine sP (h := ?_)
         rfl
        refine one_ (i := 5) (N := none) #[true, true, true, true, true, true] rfl rfl (by kernel_rfl) (by decide) (fun K hK => ?_)
        have hs95 : w91.cell? ⟨gb347, 0, none⟩ = some (.int .i64 x348000_11) := (blk_cell BK347.out 0).trans rfl
        have hfs95 := blk_frozen BK347.out 0
        have hns95_0 := NB346_347.out
        have hns95_2 := NB348_347.out
        have hms95_0 := NB347_346.out
        have hms95_2 := NB347_348.out
        have hs96 : w91.cell? ⟨gb347, 1, none⟩ = some (.int .i64 x348001_11) := (blk_cell BK347.out 1).trans rfl
        have hfs96 := blk_frozen BK347.out 1
        have hns96_0 := NB346_347.out
        have hns96_2 := NB348_347.out
        have hms96_0 := NB347_346.out
        have hms96_2 := NB347_348.out
        refine skip_ (w1 := ?_) (by rfl) rfl ?_ ?_
        rotate_left
        ·go_simp
         rfl
        refine hK.out _ _ ⟨((cell_far (p := ⟨gb347, _, none⟩) NB348_347.out _).trans (((cell_far (p := ⟨gb347, _, none⟩) NB348_347.out _).trans (hHeld.1)))), ((cell_far (p := ⟨gb347, _, none⟩) NB348_347.out _).trans (((cell_far (p := ⟨gb347, _, none⟩) NB348_347.out _).trans (hHeld.2.1)))), ((cell_far (p := ⟨gb347, _, none⟩) NB348_347.out _).trans (((cell_far (p := ⟨gb347, _, none⟩) NB348_347.out _).trans (hHeld.2.2))))⟩ (fun hHeld => ?_)
        clear hK K
        refine done_ (by kernel_rfl) ?_
        try go_wp2
        refine bodyPost_ret (results_list (rs := [.cell 4 59, .tmp 5, .cell 6 54]) rfl (by simp) (.cell gb346 59 #[.int .i64 5, .string x349001_11, .int .i64 a1] (0, 0) _ rfl (by refine fB (h := ?_); refine blk_far ?_ NB346_347.out _; refine fB (h := ?_); refine blk_far ?_ NB346_347.out _; refine fB (h := ?_); refine blk_put (cs := #[.int .i64 5, .string x349001_11, .int .i64 x347002_11]) ?_ 2 _ rfl; refine fB (h := ?_); refine blk_put (cs := #[.int .i64 5, .string x347001_11, .int .i64 x347002_11]) ?_ 1 _ rfl; refine fB (h := ?_); refine blk_put (cs := #[.int .i64 x347000_11, .string x347001_11, .int .i64 x347002_11]) ?_ 0 _ rfl; refine fB (h := ?_); exact BK346.out) Tryd.underlying59 rfl (by kernel_rfl) (.tmp (.cell gb347 54 #[.int .i64 t367, .int .i64 t368] (0, 0) _ rfl (by refine fB (h := ?_); refine blk_put (cs := #[.int .i64 t367, .int .i64 x348001_11]) ?_ 1 _ rfl; refine fB (h := ?_); refine blk_put (cs := #[.int .i64 x348000_11, .int .i64 x348001_11]) ?_ 0 _ rfl; refine fB (h := ?_); refine blk_far ?_ NB347_346.out _; refine fB (h := ?_); refine blk_far ?_ NB347_346.out _; refine fB (h := ?_); refine blk_far ?_ NB347_346.out _; refine fB (h := ?_); exact BK347.out) Tryd.underlying54 rfl (by kernel_rfl) .nil)))) rfl ?_
        exact ⟨oE, fW HB.out⟩
       ·replace c88 := Bool.eq_false_iff.mpr c88
        subst c88
        replace H := iF H
        by_cases c97 : (x349001_11.size : Int) > 255
        ·rw [if_pos c97] at H
         have c97b0 := decide_eq_true c97
         have c97b1 : decide (255 < x349001_11.size) = true := decide_eq_true (by omega)
         clear c97
         simp only [Option.some.injEq, Prod.mk.injEq] at H
         obtain ⟨rfl, rfl, rfl, rfl, rfl, rfl⟩ := H
         have hnb98 := NB348_346.out
         have hnc98 := NB346_348.out
         have hnb99 := NB348_347.out
         have hnc99 := NB347_348.out
         have hcz100_0 : wc.cell? ⟨gb348, 0, none⟩ = some (.int .i64 5) := (blk_cell BK348.out 0).trans rfl
         have hcz100_1 : wc.cell? ⟨gb348, 1, none⟩ = some (.string x349001_11) := (blk_cell BK348.out 1).trans rfl
         have hcz100_2 : wc.cell? ⟨gb348, 2, none⟩ = some (.int .i64 a1) := (blk_cell BK348.out 2).trans rfl
         have hfz100_0 := blk_frozen BK348.out 0
         have hfz100_1 := blk_frozen BK348.out 1
         have hfz100_2 := blk_frozen BK348.out 2
         have hnb101 := NB346_347.out
         have hnc101 := NB347_346.out
         have hcz102_0 : wc.cell? ⟨gb346, 0, none⟩ = some (.int .i64 x347000_11) := (blk_cell BK346.out 0).trans rfl
         have hcz102_1 : wc.cell? ⟨gb346, 1, none⟩ = some (.string x347001_11) := (blk_cell BK346.out 1).trans rfl
         have hcz102_2 : wc.cell? ⟨gb346, 2, none⟩ = some (.int .i64 x347002_11) := (blk_cell BK346.out 2).trans rfl
         have hfz102_0 := blk_frozen BK346.out 0
         have hfz102_1 := blk_frozen BK346.out 1
         have hfz102_2 := blk_frozen BK346.out 2
         have hcz103_0 : wc.cell? ⟨gb347, 0, none⟩ = some (.int .i64 x348000_11) := (blk_cell BK347.out 0).trans rfl
         have hcz103_1 : wc.cell? ⟨gb347, 1, none⟩ = some (.int .i64 x348001_11) := (blk_cell BK347.out 1).trans rfl
         have hfz103_0 := blk_frozen BK347.out 0
         have hfz103_1 := blk_frozen BK347.out 1
         go_wp2
         refine bodyPost_ret (results_list (rs := [.cell 4 59, .tmp 5, .cell 6 54]) rfl (by simp) (.cell gb346 59 #[.int .i64 5, .string x349001_11, .int .i64 a1] (0, 0) _ rfl (by refine fB (h := ?_); refine blk_far ?_ NB346_347.out _; refine fB (h := ?_); refine blk_far ?_ NB346_347.out _; refine fB (h := ?_); refine blk_put (cs := #[.int .i64 5, .string x349001_11, .int .i64 x347002_11]) ?_ 2 _ rfl; refine fB (h := ?_); refine blk_put (cs := #[.int .i64 5, .string x347001_11, .int .i64 x347002_11]) ?_ 1 _ rfl; refine fB (h := ?_); refine blk_put (cs := #[.int .i64 x347000_11, .string x347001_11, .int .i64 x347002_11]) ?_ 0 _ rfl; refine fB (h := ?_); exact BK346.out) Tryd.underlying59 rfl (by kernel_rfl) (.tmp (.cell gb347 54 #[.int .i64 2, .int .i64 a1] (0, 0) _ rfl (by refine fB (h := ?_); refine blk_put (cs := #[.int .i64 2, .int .i64 x348001_11]) ?_ 1 _ rfl; refine fB (h := ?_); refine blk_put (cs := #[.int .i64 x348000_11, .int .i64 x348001_11]) ?_ 0 _ rfl; refine fB (h := ?_); refine blk_far ?_ NB347_346.out _; refine fB (h := ?_); refine blk_far ?_ NB347_346.out _; refine fB (h := ?_); refine blk_far ?_ NB347_346.out _; refine fB (h := ?_); exact BK347.out) Tryd.underlying54 rfl (by kernel_rfl) .nil)))) rfl ?_
         exact ⟨oE, fW HB.out⟩
        ·rw [if_neg c97] at H
         have c97b0 := decide_eq_false c97
         have c97b1 : decide (255 < x349001_11.size) = false := decide_eq_false (by omega)
         clear c97
         simp only [Option.some.injEq, Prod.mk.injEq] at H
         obtain ⟨rfl, rfl, rfl, rfl, rfl, rfl⟩ := H
         have hnb104 := NB348_346.out
         have hnc104 := NB346_348.out
         have hnb105 := NB348_347.out
         have hnc105 := NB347_348.out
         have hcz106_0 : wc.cell? ⟨gb348, 0, none⟩ = some (.int .i64 5) := (blk_cell BK348.out 0).trans rfl
         have hcz106_1 : wc.cell? ⟨gb348, 1, none⟩ = some (.string x349001_11) := (blk_cell BK348.out 1).trans rfl
         have hcz106_2 : wc.cell? ⟨gb348, 2, none⟩ = some (.int .i64 a1) := (blk_cell BK348.out 2).trans rfl
         have hfz106_0 := blk_frozen BK348.out 0
         have hfz106_1 := blk_frozen BK348.out 1
         have hfz106_2 := blk_frozen BK348.out 2
         have hnb107 := NB346_347.out
         have hnc107 := NB347_346.out
         have hcz108_0 : wc.cell? ⟨gb346, 0, none⟩ = some (.int .i64 x347000_11) := (blk_cell BK346.out 0).trans rfl
         have hcz108_1 : wc.cell? ⟨gb346, 1, none⟩ = some (.string x347001_11) := (blk_cell BK346.out 1).trans rfl
         have hcz108_2 : wc.cell? ⟨gb346, 2, none⟩ = some (.int .i64 x347002_11) := (blk_cell BK346.out 2).trans rfl
         have hfz108_0 := blk_frozen BK346.out 0
         have hfz108_1 := blk_frozen BK346.out 1
         have hfz108_2 := blk_frozen BK346.out 2
         have hcz109_0 : wc.cell? ⟨gb347, 0, none⟩ = some (.int .i64 x348000_11) := (blk_cell BK347.out 0).trans rfl
         have hcz109_1 : wc.cell? ⟨gb347, 1, none⟩ = some (.int .i64 x348001_11) := (blk_cell BK347.out 1).trans rfl
         have hfz109_0 := blk_frozen BK347.out 0
         have hfz109_1 := blk_frozen BK347.out 1
         go_wp2
         refine bodyPost_ret (results_list (rs := [.cell 4 59, .tmp 5, .cell 6 54]) rfl (by simp) (.cell gb346 59 #[.int .i64 5, .string x349001_11, .int .i64 a1] (0, 0) _ rfl (by refine fB (h := ?_); refine blk_far ?_ NB346_347.out _; refine fB (h := ?_); refine blk_far ?_ NB346_347.out _; refine fB (h := ?_); refine blk_put (cs := #[.int .i64 5, .string x349001_11, .int .i64 x347002_11]) ?_ 2 _ rfl; refine fB (h := ?_); refine blk_put (cs := #[.int .i64 5, .string x347001_11, .int .i64 x347002_11]) ?_ 1 _ rfl; refine fB (h := ?_); refine blk_put (cs := #[.int .i64 x347000_11, .string x347001_11, .int .i64 x347002_11]) ?_ 0 _ rfl; refine fB (h := ?_); exact BK346.out) Tryd.underlying59 rfl (by kernel_rfl) (.tmp (.cell gb347 54 #[.int .i64 0, .int .i64 0] (0, 0) _ rfl (by refine fB (h := ?_); refine blk_put (cs := #[.int .i64 0, .int .i64 x348001_11]) ?_ 1 _ rfl; refine fB (h := ?_); refine blk_put (cs := #[.int .i64 x348000_11, .int .i64 x348001_11]) ?_ 0 _ rfl; refine fB (h := ?_); refine blk_far ?_ NB347_346.out _; refine fB (h := ?_); refine blk_far ?_ NB347_346.out _; refine fB (h := ?_); refine blk_far ?_ NB347_346.out _; refine fB (h := ?_); exact BK347.out) Tryd.underlying54 rfl (by kernel_rfl) .nil)))) rfl ?_
         exact ⟨oE, fW HB.out⟩

end Go.Proofs.YtcgchblljhbdaaaDoor.C
