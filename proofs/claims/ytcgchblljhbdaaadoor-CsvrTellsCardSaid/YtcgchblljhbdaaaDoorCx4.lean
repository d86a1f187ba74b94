-- Printed by this session's own program (wip/xprint) out of the translation. Lean checks it.
import Derived.Test.YtcgchblljhbdaaaDoorCx0
import Derived.Test.YtcgchblljhbdaaaDoorCx3
namespace Go.Proofs.YtcgchblljhbdaaaDoor.C
open Go.Proofs.YtcgchblljhbdaaaDoor
open Go.RowKit Go.Proofs.YtcgchblljhbdaaaDoorW.PrintWords Go.Proofs.YtcgchblljhbdaaaDoorW.PrintLast Go.Proofs.YtcgchblljhbdaaaDoorW.PrintMore
attribute [local go_sem] max2_int min2_int max_two min_two max_three min_three max_four min_four   -- for this text's walks alone
set_option linter.unusedVariables false
set_option linter.unusedSimpArgs false

/-! ### csvr_field: function 72 -/
def csvr_field.j0 : Nat → List Int → Int → Bool → Option (Int × ByteArray × Int × Int × Int × Int)
 | 0, _, _, _ => none
 | k + 1, x0, x1, x21 => if x21 = true then ((csvr_quoted.f k x0 x1).bind fun bt134 => (if bt134.2.2.1 = 0 then (if (bt134.1.size : Int) > 255 then (some (5, bt134.1, x1, bt134.2.1, 2, x1)) else (some (5, bt134.1, x1, bt134.2.1, bt134.2.2.1, bt134.2.2.2))) else (some (5, bt134.1, x1, bt134.2.1, bt134.2.2.1, bt134.2.2.2)))) else ((csvr_open.f k x0 x1).bind fun bt139 => (if bt139.2.2.1 = 0 then (if (bt139.1.size : Int) > 255 then (some (5, bt139.1, x1, bt139.2.1, 2, x1)) else (some (5, bt139.1, x1, bt139.2.1, bt139.2.2.1, bt139.2.2.2))) else (some (5, bt139.1, x1, bt139.2.1, bt139.2.2.1, bt139.2.2.2))))
def csvr_field.f (k : Nat) (l0 : List Int) (a1 : Int) : Option (Int × ByteArray × Int × Int × Int × Int) := if a1 < (l0.length : Int) then (if 0 ≤ a1 then (csvr_field.j0 k l0 a1 ((rd l0 a1) == 34)) else (none)) else (csvr_field.j0 k l0 a1 false)
theorem csvr_field.mono_l : ∀ k, (∀ y0 y1 y2, LeO (csvr_field.j0 k y0 y1 y2) (csvr_field.j0 (k + 1) y0 y1 y2))
 | 0 => fun _ _ _ r h => by simp [csvr_field.j0] at h
 | k + 1 => by
  have ih0 := csvr_field.mono_l k
  ·intro y0 y1 y2
   unfold csvr_field.j0
   repeat' first
   | (with_reducible first | exact ih0 _ _ _ | exact csvr_open.mono _ _ _ | exact csvr_quoted.mono _ _ _ | exact LeO.refl _ | exact LeO.none _ | refine LeO.ite ?_ ?_ | refine LeO.bind ?_ (fun _ => ?_))
   | exact ih0 _ _ _
   | exact csvr_open.mono _ _ _
   | exact csvr_quoted.mono _ _ _
   | exact LeO.none _
   | refine LeO.ite ?_ ?_
   | refine LeO.bind ?_ (fun _ => ?_)
theorem csvr_field.mono : ∀ a0 a1 k, LeO (csvr_field.f k a0 a1) (csvr_field.f (k + 1) a0 a1) := by
 intro a0 a1 k
 have ih0 := csvr_field.mono_l k
 unfold csvr_field.f
 repeat' first
   | (with_reducible first | exact ih0 _ _ _ | exact csvr_open.mono _ _ _ | exact csvr_quoted.mono _ _ _ | exact LeO.refl _ | exact LeO.none _ | refine LeO.ite ?_ ?_ | refine LeO.bind ?_ (fun _ => ?_))
   | exact ih0 _ _ _
   | exact csvr_open.mono _ _ _
   | exact csvr_quoted.mono _ _ _
   | exact LeO.none _
   | refine LeO.ite ?_ ?_
   | refine LeO.bind ?_ (fun _ => ?_)
def csvr_field.T7 : Bool × List (List Nat × List Nat) := (true, [([], []), ([], []), ([0, 1], [0, 1]), ([], []), ([], []), ([2, 0, 1, 2], [2]), ([3, 5, 0, 1, 2, 3, 5], [3]), ([4, 6, 0, 1, 2, 3, 4, 5, 6], [4])])
def csvr_field.B7 : List Nat := [0, 0, 3, 0, 0, 7, 47, 127]
theorem csvr_field.tab7 : rtab .any (opsOf Tryd.f72 7) = csvr_field.T7 := by kernel_rfl
theorem csvr_field.bits7 : waitsOk csvr_field.T7.2 csvr_field.B7 = true := by kernel_rfl
set_option maxHeartbeats 8000000 in
set_option maxRecDepth 100000 in
theorem csvr_field.calls (k : Nat) (A0 : Option Addr) (c0 : Nat) (l0 : List Int) (a1 : Int) (r1 : Int) (r2 : ByteArray) (r3 : Int) (r4 : Int) (r5 : Int) (r6 : Int) (w : World) (hr0 : Kd.C (Kd.int .u8) w A0 l0.length l0) (hc0 : l0.length ≤ c0) (h : csvr_field.f k l0 a1 = some (r1, r2, r3, r4, r5, r6)) :
  Calls Tryd.prog 72 #[.slice A0 l0.length c0, .int .i64 a1] w fun e w' => e = .returned (.tuple #[.agg #[.int .i64 r1, .string r2, .int .i64 r3], .int .i64 r4, .agg #[.int .i64 r5, .int .i64 r6]]) ∧ Below w.heap.size w w' := by
 have hu59 := Tryd.underlying59
 have hu54 := Tryd.underlying54
 have HR0 := Aside0.mk hr0
 have HC0 := Aside0.mk hc0
 clear hr0 hc0
 have HB := Aside0.mk (Below.refl w.heap.size w)
 have H : (if a1 < (l0.length : Int) then (if 0 ≤ a1 then (csvr_field.j0 k l0 a1 ((rd l0 a1) == 34)) else (none)) else (csvr_field.j0 k l0 a1 false)) = some (r1, r2, r3, r4, r5, r6) := h
 clear h
 have HC3 := Aside0.mk H
 clear H
 go_enter Tryd.func72, Tryd.ntmps72
 go_upto_region 2 with (first | ((with_reducible refine gate_dst (N := 4) rfl ?_); (try (refine gate_guard (by rfl) ?_; dsimp only)); refine bE (N := 4) (cs := #[.int .i64 0, .string (⟨#[]⟩ : ByteArray), .int .i64 0]) (t := 59) (h := ?_); intro gb131 hg w4 hbox hb; have BK131 := Aside0.mk (hbox); have GW131 := Aside0.mk (gE hg (fW HB.out)); have GE131 := GW131; replace HB := Aside0.mk (below_step (fW HB.out) hb); clear hb hbox hg) | ((with_reducible refine gate_dst (N := 6) rfl ?_); (try (refine gate_guard (by rfl) ?_; dsimp only)); refine bE (N := 6) (cs := #[.int .i64 0, .int .i64 0]) (t := 54) (h := ?_); intro gb132 hg w5 hbox hb; have BK132 := Aside0.mk (hbox); have GW132 := Aside0.mk (gE hg (fW HB.out)); have GE132 := GW132; replace HB := Aside0.mk (below_step (fW HB.out) hb); have NB131_132 := Aside0.mk ((by rw [hg]; exact Nat.ne_of_lt (blk_lt (g := gb131) (o := .cells #[.int .i64 0, .string (⟨#[]⟩ : ByteArray), .int .i64 0] 59 (0, 0)) (fB BK131.out)) : gb131 ≠ gb132)); have NB132_131 := Aside0.mk ((by rw [hg]; exact Nat.ne_of_gt (blk_lt (g := gb131) (o := .cells #[.int .i64 0, .string (⟨#[]⟩ : ByteArray), .int .i64 0] 59 (0, 0)) (fB BK131.out)) : gb132 ≠ gb131)); replace BK131 := Aside0.mk (blk_below (fB BK131.out) hb); clear hb hbox hg))
 (try simp only [Act.put, List.setIfInBounds_toArray, List.set_cons_zero, List.set_cons_succ])
 go_cut [21] (fun v21 wc => ∃ (kq : Nat) (x21_2 : Bool), v21 = .bool x21_2 ∧ Aside0 (csvr_field.j0 kq l0 a1 x21_2 = some (r1, r2, r3, r4, r5, r6)) ∧ Aside0 (kq ≤ k) ∧ Aside0 (wc.heap[gb131]? = some (.cells #[.int .i64 0, .string (⟨#[]⟩ : ByteArray), .int .i64 0] 59 (0, 0))) ∧ Aside0 (wc.heap[gb132]? = some (.cells #[.int .i64 0, .int .i64 0] 54 (0, 0))) ∧ Aside0 (Below w.heap.size w wc))
 case first =>
  have H := HC3.out
  clear HC3
  by_cases c6 : a1 < (l0.length : Int)
  ·rw [if_pos c6] at H
   have c6b0 := decide_eq_true c6
   clear c6
   (first | rw [c6b0] | (simp only [i64_w, i32_w]; rw [c6b0]) | skip)
   obtain ⟨c7, H⟩ := eT H
   have c7b0 := decide_eq_true c7
   clear c7
   have H' := Aside0.mk H
   clear H
   obtain ⟨ad133, rfl, hx133_0, p133, q133⟩ := aI HB HR0 (a1)
   go_wp2
   go_meet
   case rel => exact ⟨_, (((rd l0 a1) == 34)), oR, H', ⟨by first | omega | exact Nat.le_refl _⟩, ⟨fB BK131.out⟩, ⟨fB BK132.out⟩, ⟨fW HB.out⟩⟩
  ·rw [if_neg c6] at H
   have c6b0 := decide_eq_false c6
   clear c6
   (first | rw [c6b0] | (simp only [i64_w, i32_w]; rw [c6b0]) | skip)
   have H' := Aside0.mk H
   clear H
   go_wp2
   go_meet
   case rel => exact ⟨_, (false), oR, H', ⟨by first | omega | exact Nat.le_refl _⟩, ⟨fB BK131.out⟩, ⟨fB BK132.out⟩, ⟨fW HB.out⟩⟩
 case rest =>
  clear HC3
  try clear c6; try clear c6b0; try clear c7; try clear c7b0; try clear hx133_0; try clear p133; try clear q133
  obtain ⟨kq, x21_2, rfl, HA, HJ2, BK131, BK132, HB⟩ := hcut
  cases kq with
  | zero => exact absurd HA.out (by simp [csvr_field.j0])
  | succ kj2 =>
   have H := HA.out
   clear HA
   simp only [csvr_field.j0] at H
   by_cases c8 : x21_2 = true
   ·subst c8
    replace H := iT H
    obtain ⟨⟨t134, t135, t136, t137⟩, A90, H⟩ := bS H
    dsimp only at H
    have A9 := Aside0.mk A90
    clear A90
    by_cases c10 : t136 = 0
    ·rw [if_pos c10] at H
     have c10b0 := qT c10
     have c10b1 := nF c10
     clear c10
     by_cases c11 : (t134.size : Int) > 255
     ·rw [if_pos c11] at H
      have c11b0 := decide_eq_true c11
      have c11b1 : decide (255 < t134.size) = true := decide_eq_true (by omega)
      clear c11
      simp only [Option.some.injEq, Prod.mk.injEq] at H
      obtain ⟨rfl, rfl, rfl, rfl, rfl, rfl⟩ := H
      try go_wp2_with (first | (go_at_call 88; (with_reducible refine (csvr_quoted.calls kj2 _ _ l0 a1 t134 t135 t136 t137 _ ?side1 ?side2 A9.out).mono ?_); (case side1 => exact fC (Kd.C_below HR0.out HB.out)); (case side2 => exact HC0.out); rintro e w12 ⟨rfl, hb⟩; replace BK131 := Aside0.mk (blk_below (fB BK131.out) hb); replace BK132 := Aside0.mk (blk_below (fB BK132.out) hb); replace HB := Aside0.mk (below_step (fW HB.out) hb); (try clear hb); (try clear hb2); (try clear hk); (try clear hi)) | ((with_reducible refine gate_dst (N := 10) rfl ?_); (try (refine gate_guard (by rfl) ?_; dsimp only)); refine bE (N := 10) (cs := #[.int .i64 0, .int .i64 0]) (t := 54) (h := ?_); intro gb138 hg w13 hbox hb; have BK138 := Aside0.mk (hbox); have GW138 := Aside0.mk (gE hg (fW HB.out)); have GE138 := GW138; replace HB := Aside0.mk (below_step (fW HB.out) hb); have NB131_138 := Aside0.mk ((by rw [hg]; exact Nat.ne_of_lt (blk_lt (g := gb131) (o := .cells #[.int .i64 0, .string (⟨#[]⟩ : ByteArray), .int .i64 0] 59 (0, 0)) (fB BK131.out)) : gb131 ≠ gb138)); have NB138_131 := Aside0.mk ((by rw [hg]; exact Nat.ne_of_gt (blk_lt (g := gb131) (o := .cells #[.int .i64 0, .string (⟨#[]⟩ : ByteArray), .int .i64 0] 59 (0, 0)) (fB BK131.out)) : gb138 ≠ gb131)); replace BK131 := Aside0.mk (blk_below (fB BK131.out) hb); have NB132_138 := Aside0.mk ((by rw [hg]; exact Nat.ne_of_lt (blk_lt (g := gb132) (o := .cells #[.int .i64 0, .int .i64 0] 54 (0, 0)) (fB BK132.out)) : gb132 ≠ gb138)); have NB138_132 := Aside0.mk ((by rw [hg]; exact Nat.ne_of_gt (blk_lt (g := gb132) (o := .cells #[.int .i64 0, .int .i64 0] 54 (0, 0)) (fB BK132.out)) : gb138 ≠ gb132)); replace BK132 := Aside0.mk (blk_below (fB BK132.out) hb); clear hb hbox hg; have hnb14 := NB138_131.out; have hnc14 := NB131_138.out; have hnb15 := NB138_132.out; have hnc15 := NB132_138.out; have hcz16_0 : w13.cell? ⟨gb138, 0, none⟩ = some (.int .i64 0) := (blk_cell BK138.out 0).trans rfl; have hcz16_1 : w13.cell? ⟨gb138, 1, none⟩ = some (.int .i64 0) := (blk_cell BK138.out 1).trans rfl; have hfz16_0 := blk_frozen BK138.out 0; have hfz16_1 := blk_frozen BK138.out 1))
      have n0_ : Aside0 (((((w13.setCell ⟨gb138, 0, none⟩ (.int .i64 t136)).setCell ⟨gb138, 1, none⟩ (.int .i64 t137)).setCell ⟨gb138, 0, none⟩ (.int .i64 2)).setCell ⟨gb138, 1, none⟩ (.int .i64 a1)).heap[gb131]? = some (.cells #[.int .i64 0, .string (⟨#[]⟩ : ByteArray), .int .i64 0] 59 (0, 0))) := ⟨by refine fB (h := ?_); refine blk_far ?_ NB131_138.out _; refine fB (h := ?_); refine blk_far ?_ NB131_138.out _; refine fB (h := ?_); refine blk_far ?_ NB131_138.out _; refine fB (h := ?_); refine blk_far ?_ NB131_138.out _; refine fB (h := ?_); exact BK131.out⟩
      have n1_ : Aside0 (((((w13.setCell ⟨gb138, 0, none⟩ (.int .i64 t136)).setCell ⟨gb138, 1, none⟩ (.int .i64 t137)).setCell ⟨gb138, 0, none⟩ (.int .i64 2)).setCell ⟨gb138, 1, none⟩ (.int .i64 a1)).heap[gb132]? = some (.cells #[.int .i64 0, .int .i64 0] 54 (0, 0))) := ⟨by refine fB (h := ?_); refine blk_far ?_ NB132_138.out _; refine fB (h := ?_); refine blk_far ?_ NB132_138.out _; refine fB (h := ?_); refine blk_far ?_ NB132_138.out _; refine fB (h := ?_); refine blk_far ?_ NB132_138.out _; refine fB (h := ?_); exact BK132.out⟩
      have n2_ : Aside0 (((((w13.setCell ⟨gb138, 0, none⟩ (.int .i64 t136)).setCell ⟨gb138, 1, none⟩ (.int .i64 t137)).setCell ⟨gb138, 0, none⟩ (.int .i64 2)).setCell ⟨gb138, 1, none⟩ (.int .i64 a1)).heap[gb138]? = some (.cells #[.int .i64 2, .int .i64 a1] 54 (0, 0))) := ⟨by refine fB (h := ?_); refine blk_put (cs := #[.int .i64 2, .int .i64 t137]) ?_ 1 _ rfl; refine fB (h := ?_); refine blk_put (cs := #[.int .i64 t136, .int .i64 t137]) ?_ 0 _ rfl; refine fB (h := ?_); refine blk_put (cs := #[.int .i64 t136, .int .i64 0]) ?_ 1 _ rfl; refine fB (h := ?_); refine blk_put (cs := #[.int .i64 0, .int .i64 0]) ?_ 0 _ rfl; refine fB (h := ?_); exact BK138.out⟩
      have n3_ : Aside0 (Below w.heap.size w ((((w13.setCell ⟨gb138, 0, none⟩ (.int .i64 t136)).setCell ⟨gb138, 1, none⟩ (.int .i64 t137)).setCell ⟨gb138, 0, none⟩ (.int .i64 2)).setCell ⟨gb138, 1, none⟩ (.int .i64 a1))) := ⟨fW HB.out⟩
      (try clear BK131)
      (try clear BK132)
      (try clear BK138)
      (try clear HB)
      generalize ((((w13.setCell ⟨gb138, 0, none⟩ (.int .i64 t136)).setCell ⟨gb138, 1, none⟩ (.int .i64 t137)).setCell ⟨gb138, 0, none⟩ (.int .i64 2)).setCell ⟨gb138, 1, none⟩ (.int .i64 a1)) = w17 at n0_ n1_ n2_ n3_ ⊢
      have BK131 := n0_
      have BK132 := n1_
      have BK138 := n2_
      have HB := n3_
      clear n0_ n1_ n2_ n3_
      have n0_ := Aside0.mk (blk_drew BK131.out)
      have n1_ := Aside0.mk (blk_drew BK132.out)
      have n2_ := Aside0.mk (blk_drew BK138.out)
      have n3_ := Aside0.mk (below_drew1 HB.out)
      clear BK131
      clear BK132
      clear BK138
      clear HB
      have BK131 := n0_
      have BK132 := n1_
      have BK138 := n2_
      have HB := n3_
      clear n0_ n1_ n2_ n3_
      refine start_ (n := 8) (S := fun w' => w'.cell? ⟨gb138, 0, none⟩ = some (.int .i64 2) ∧ w'.cell? ⟨gb138, 1, none⟩ = some (.int .i64 a1)) (ds := []) #[false, false, false, false, false, false, false, false] (by kernel_rfl) rfl rfl ⟨(blk_cell BK138.out 0).trans rfl, (blk_cell BK138.out 1).trans rfl⟩ (fun hHeld => ?_); refine with_tabW csvr_field.tab7 csvr_field.bits7 (fun HT_ HW_ => ?_)
      generalize w17.drew = w18 at BK131 BK132 BK138 HB hHeld ⊢
      refine pure_ (i := 0) (N := some 40) (v := ?_) (a' := ?_) #[true, false, false, false, false, false, false, false] rfl rfl (any_of HT_.out (by kernel_rfl)) (fun _ _ _ h => h) (Or.inl ⟨by rfl, ?_⟩) ?_ ?_
      rotate_left
      ·intro w'
       go_simp
       with_reducible rfl
      rotate_left
      ·refine sP (h := ?_)
       rfl
      refine pure_ (i := 1) (N := some 41) (v := ?_) (a' := ?_) #[true, true, false, false, false, false, false, false] rfl rfl (any_of HT_.out (by kernel_rfl)) (fun _ _ _ h => h) (Or.inl ⟨by rfl, ?_⟩) ?_ ?_
      rotate_left
      ·intro w'
       go_simp
       with_reducible rfl
      rotate_left
      ·refine sP (h := ?_)
       rfl
      refine pure_ (i := 2) (N := some 42) (v := ?_) (a' := ?_) #[true, true, true, false, false, false, false, false] rfl rfl (any_of HT_.out (by kernel_rfl)) (fun _ _ _ h => h) (Or.inl ⟨by rfl, ?_⟩) ?_ ?_
      rotate_left
      ·intro w'
       go_simp
       with_reducible rfl
      rotate_left
      ·refine sP (h := ?_)
       rfl
      refine pure_ (i := 3) (N := some 43) (v := ?_) (a' := ?_) #[true, true, true, true, false, false, false, false] rfl rfl (any_of HT_.out (by kernel_rfl)) (fun _ _ _ h => h) (Or.inl ⟨by rfl, ?_⟩) ?_ ?_
      rotate_left
      ·intro w'
       go_simp
       with_reducible rfl
      rotate_left
      ·refine sP (h := ?_)
       rfl
      refine take_ (i := 4) (N := some 44) (v := ?_) (a' := ?_) #[true, true, true, true, true, false, false, false] rfl rfl (take_ofW HT_.out HW_.out (by kernel_rfl)) (fun _ _ _ h => h) (Or.inl ⟨by rfl, ?_⟩) hHeld ?_ ?_
      rotate_left
      ·rintro w' ⟨s0, s1⟩
       go_simp
       with_reducible rfl
      rotate_left
      ·refine sP (h := ?_)
       rfl
      refine one_ (i := 5) (N := none) #[true, true, true, true, true, true, false, false] rfl rfl (one_of HT_.out (by kernel_rfl)) (by decide) (fun K hK => ?_)
      have hs19 : w18.cell? ⟨gb131, 0, none⟩ = some (.int .i64 0) := (blk_cell BK131.out 0).trans rfl
      have hfs19 := blk_frozen BK131.out 0
      have hns19_1 := NB132_131.out
      have hns19_2 := NB138_131.out
      have hms19_1 := NB131_132.out
      have hms19_2 := NB131_138.out
      have hs20 : w18.cell? ⟨gb131, 1, none⟩ = some (.string (⟨#[]⟩ : ByteArray)) := (blk_cell BK131.out 1).trans rfl
      have hfs20 := blk_frozen BK131.out 1
      have hns20_1 := NB132_131.out
      have hns20_2 := NB138_131.out
      have hms20_1 := NB131_132.out
      have hms20_2 := NB131_138.out
      have hs21 : w18.cell? ⟨gb131, 2, none⟩ = some (.int .i64 0) := (blk_cell BK131.out 2).trans rfl
      have hfs21 := blk_frozen BK131.out 2
      have hns21_1 := NB132_131.out
      have hns21_2 := NB138_131.out
      have hms21_1 := NB131_132.out
      have hms21_2 := NB131_138.out
      refine skip_ (w1 := ?_) (by rfl) rfl ?_ ?_
      rotate_left
      ·go_simp
       rfl
      refine hK.out _ _ ⟨((cell_far (p := ⟨gb131, _, none⟩) NB138_131.out _).trans (((cell_far (p := ⟨gb131, _, none⟩) NB138_131.out _).trans (((cell_far (p := ⟨gb131, _, none⟩) NB138_131.out _).trans (hHeld.1)))))), ((cell_far (p := ⟨gb131, _, none⟩) NB138_131.out _).trans (((cell_far (p := ⟨gb131, _, none⟩) NB138_131.out _).trans (((cell_far (p := ⟨gb131, _, none⟩) NB138_131.out _).trans (hHeld.2))))))⟩ (fun hHeld => ?_)
      clear hK K
      refine pure_ (i := 6) (N := some 5) (v := ?_) (a' := ?_) #[true, true, true, true, true, true, true, false] rfl rfl (any_of HT_.out (by kernel_rfl)) (fun _ _ _ h => h) (Or.inl ⟨by rfl, ?_⟩) ?_ ?_
      rotate_left
      ·intro w'
       go_simp
       with_reducible rfl
      rotate_left
      ·refine sP (h := ?_)
       rfl
      refine one_ (i := 7) (N := none) #[true, true, true, true, true, true, true, true] rfl rfl (one_of HT_.out (by kernel_rfl)) (by decide) (fun K hK => ?_)
      have hs22 : w18.cell? ⟨gb132, 0, none⟩ = some (.int .i64 0) := (blk_cell BK132.out 0).trans rfl
      have hfs22 := blk_frozen BK132.out 0
      have hns22_0 := NB131_132.out
      have hns22_2 := NB138_132.out
      have hms22_0 := NB132_131.out
      have hms22_2 := NB132_138.out
      have hs23 : w18.cell? ⟨gb132, 1, none⟩ = some (.int .i64 0) := (blk_cell BK132.out 1).trans rfl
      have hfs23 := blk_frozen BK132.out 1
      have hns23_0 := NB131_132.out
      have hns23_2 := NB138_132.out
      have hms23_0 := NB132_131.out
      have hms23_2 := NB132_138.out
      refine skip_ (w1 := ?_) (by rfl) rfl ?_ ?_
      rotate_left
      ·go_simp
       rfl
      refine hK.out _ _ ⟨((cell_far (p := ⟨gb132, _, none⟩) NB138_132.out _).trans (((cell_far (p := ⟨gb132, _, none⟩) NB138_132.out _).trans (hHeld.1)))), ((cell_far (p := ⟨gb132, _, none⟩) NB138_132.out _).trans (((cell_far (p := ⟨gb132, _, none⟩) NB138_132.out _).trans (hHeld.2))))⟩ (fun hHeld => ?_)
      clear hK K
      refine done_ (done_of HT_.out (by kernel_rfl)) ?_
      try go_wp2
      refine bodyPost_ret (results_list (rs := [.cell 4 59, .tmp 5, .cell 6 54]) rfl (by simp) (.cell gb131 59 #[.int .i64 5, .string t134, .int .i64 a1] (0, 0) _ rfl (by refine fB (h := ?_); refine blk_far ?_ NB131_132.out _; refine fB (h := ?_); refine blk_far ?_ NB131_132.out _; refine fB (h := ?_); refine blk_put (cs := #[.int .i64 5, .string t134, .int .i64 0]) ?_ 2 _ rfl; refine fB (h := ?_); refine blk_put (cs := #[.int .i64 5, .string (⟨#[]⟩ : ByteArray), .int .i64 0]) ?_ 1 _ rfl; refine fB (h := ?_); refine blk_put (cs := #[.int .i64 0, .string (⟨#[]⟩ : ByteArray), .int .i64 0]) ?_ 0 _ rfl; refine fB (h := ?_); exact BK131.out) Tryd.underlying59 rfl (by kernel_rfl) (.tmp (.cell gb132 54 #[.int .i64 2, .int .i64 a1] (0, 0) _ rfl (by refine fB (h := ?_); refine blk_put (cs := #[.int .i64 2, .int .i64 0]) ?_ 1 _ rfl; refine fB (h := ?_); refine blk_put (cs := #[.int .i64 0, .int .i64 0]) ?_ 0 _ rfl; refine fB (h := ?_); refine blk_far ?_ NB132_131.out _; refine fB (h := ?_); refine blk_far ?_ NB132_131.out _; refine fB (h := ?_); refine blk_far ?_ NB132_131.out _; refine fB (h := ?_); exact BK132.out) Tryd.underlying54 rfl (by kernel_rfl) .nil)))) rfl ?_
      exact ⟨oE, fW HB.out⟩
     ·rw [if_neg c11] at H
      have c11b0 := decide_eq_false c11
      have c11b1 : decide (255 < t134.size) = false := decide_eq_false (by omega)
      clear c11
      simp only [Option.some.injEq, Prod.mk.injEq] at H
      obtain ⟨rfl, rfl, rfl, rfl, rfl, rfl⟩ := H
      try go_wp2_with (first | (go_at_call 88; (with_reducible refine (csvr_quoted.calls kj2 _ _ l0 a1 t134 t135 t136 t137 _ ?side1 ?side2 A9.out).mono ?_); (case side1 => exact fC (Kd.C_below HR0.out HB.out)); (case side2 => exact HC0.out); rintro e w24 ⟨rfl, hb⟩; replace BK131 := Aside0.mk (blk_below (fB BK131.out) hb); replace BK132 := Aside0.mk (blk_below (fB BK132.out) hb); replace HB := Aside0.mk (below_step (fW HB.out) hb); (try clear hb); (try clear hb2); (try clear hk); (try clear hi)) | ((with_reducible refine gate_dst (N := 10) rfl ?_); (try (refine gate_guard (by rfl) ?_; dsimp only)); refine bE (N := 10) (cs := #[.int .i64 0, .int .i64 0]) (t := 54) (h := ?_); intro gb138 hg w25 hbox hb; have BK138 := Aside0.mk (hbox); have GW138 := Aside0.mk (gE hg (fW HB.out)); have GE138 := GW138; replace HB := Aside0.mk (below_step (fW HB.out) hb); have NB131_138 := Aside0.mk ((by rw [hg]; exact Nat.ne_of_lt (blk_lt (g := gb131) (o := .cells #[.int .i64 0, .string (⟨#[]⟩ : ByteArray), .int .i64 0] 59 (0, 0)) (fB BK131.out)) : gb131 ≠ gb138)); have NB138_131 := Aside0.mk ((by rw [hg]; exact Nat.ne_of_gt (blk_lt (g := gb131) (o := .cells #[.int .i64 0, .string (⟨#[]⟩ : ByteArray), .int .i64 0] 59 (0, 0)) (fB BK131.out)) : gb138 ≠ gb131)); replace BK131 := Aside0.mk (blk_below (fB BK131.out) hb); have NB132_138 := Aside0.mk ((by rw [hg]; exact Nat.ne_of_lt (blk_lt (g := gb132) (o := .cells #[.int .i64 0, .int .i64 0] 54 (0, 0)) (fB BK132.out)) : gb132 ≠ gb138)); have NB138_132 := Aside0.mk ((by rw [hg]; exact Nat.ne_of_gt (blk_lt (g := gb132) (o := .cells #[.int .i64 0, .int .i64 0] 54 (0, 0)) (fB BK132.out)) : gb138 ≠ gb132)); replace BK132 := Aside0.mk (blk_below (fB BK132.out) hb); clear hb hbox hg; have hnb26 := NB138_131.out; have hnc26 := NB131_138.out; have hnb27 := NB138_132.out; have hnc27 := NB132_138.out; have hcz28_0 : w25.cell? ⟨gb138, 0, none⟩ = some (.int .i64 0) := (blk_cell BK138.out 0).trans rfl; have hcz28_1 : w25.cell? ⟨gb138, 1, none⟩ = some (.int .i64 0) := (blk_cell BK138.out 1).trans rfl; have hfz28_0 := blk_frozen BK138.out 0; have hfz28_1 := blk_frozen BK138.out 1))
      have n0_ : Aside0 (((w25.setCell ⟨gb138, 0, none⟩ (.int .i64 t136)).setCell ⟨gb138, 1, none⟩ (.int .i64 t137)).heap[gb131]? = some (.cells #[.int .i64 0, .string (⟨#[]⟩ : ByteArray), .int .i64 0] 59 (0, 0))) := ⟨by refine fB (h := ?_); refine blk_far ?_ NB131_138.out _; refine fB (h := ?_); refine blk_far ?_ NB131_138.out _; refine fB (h := ?_); exact BK131.out⟩
      have n1_ : Aside0 (((w25.setCell ⟨gb138, 0, none⟩ (.int .i64 t136)).setCell ⟨gb138, 1, none⟩ (.int .i64 t137)).heap[gb132]? = some (.cells #[.int .i64 0, .int .i64 0] 54 (0, 0))) := ⟨by refine fB (h := ?_); refine blk_far ?_ NB132_138.out _; refine fB (h := ?_); refine blk_far ?_ NB132_138.out _; refine fB (h := ?_); exact BK132.out⟩
      have n2_ : Aside0 (((w25.setCell ⟨gb138, 0, none⟩ (.int .i64 t136)).setCell ⟨gb138, 1, none⟩ (.int .i64 t137)).heap[gb138]? = some (.cells #[.int .i64 t136, .int .i64 t137] 54 (0, 0))) := ⟨by refine fB (h := ?_); refine blk_put (cs := #[.int .i64 t136, .int .i64 0]) ?_ 1 _ rfl; refine fB (h := ?_); refine blk_put (cs := #[.int .i64 0, .int .i64 0]) ?_ 0 _ rfl; refine fB (h := ?_); exact BK138.out⟩
      have n3_ : Aside0 (Below w.heap.size w ((w25.setCell ⟨gb138, 0, none⟩ (.int .i64 t136)).setCell ⟨gb138, 1, none⟩ (.int .i64 t137))) := ⟨fW HB.out⟩
      (try clear BK131)
      (try clear BK132)
      (try clear BK138)
      (try clear HB)
      generalize ((w25.setCell ⟨gb138, 0, none⟩ (.int .i64 t136)).setCell ⟨gb138, 1, none⟩ (.int .i64 t137)) = w29 at n0_ n1_ n2_ n3_ ⊢
      have BK131 := n0_
      have BK132 := n1_
      have BK138 := n2_
      have HB := n3_
      clear n0_ n1_ n2_ n3_
      have n0_ := Aside0.mk (blk_drew BK131.out)
      have n1_ := Aside0.mk (blk_drew BK132.out)
      have n2_ := Aside0.mk (blk_drew BK138.out)
      have n3_ := Aside0.mk (below_drew1 HB.out)
      clear BK131
      clear BK132
      clear BK138
      clear HB
      have BK131 := n0_
      have BK132 := n1_
      have BK138 := n2_
      have HB := n3_
      clear n0_ n1_ n2_ n3_
      refine start_ (n := 8) (S := fun w' => w'.cell? ⟨gb138, 0, none⟩ = some (.int .i64 t136) ∧ w'.cell? ⟨gb138, 1, none⟩ = some (.int .i64 t137)) (ds := []) #[false, false, false, false, false, false, false, false] (by kernel_rfl) rfl rfl ⟨(blk_cell BK138.out 0).trans rfl, (blk_cell BK138.out 1).trans rfl⟩ (fun hHeld => ?_); refine with_tabW csvr_field.tab7 csvr_field.bits7 (fun HT_ HW_ => ?_)
      generalize w29.drew = w30 at BK131 BK132 BK138 HB hHeld ⊢
      refine pure_ (i := 0) (N := some 40) (v := ?_) (a' := ?_) #[true, false, false, false, false, false, false, false] rfl rfl (any_of HT_.out (by kernel_rfl)) (fun _ _ _ h => h) (Or.inl ⟨by rfl, ?_⟩) ?_ ?_
      rotate_left
      ·intro w'
       go_simp
       with_reducible rfl
      rotate_left
      ·refine sP (h := ?_)
       rfl
      refine pure_ (i := 1) (N := some 41) (v := ?_) (a' := ?_) #[true, true, false, false, false, false, false, false] rfl rfl (any_of HT_.out (by kernel_rfl)) (fun _ _ _ h => h) (Or.inl ⟨by rfl, ?_⟩) ?_ ?_
      rotate_left
      ·intro w'
       go_simp
       with_reducible rfl
      rotate_left
      ·refine sP (h := ?_)
       rfl
      refine pure_ (i := 2) (N := some 42) (v := ?_) (a' := ?_) #[true, true, true, false, false, false, false, false] rfl rfl (any_of HT_.out (by kernel_rfl)) (fun _ _ _ h => h) (Or.inl ⟨by rfl, ?_⟩) ?_ ?_
      rotate_left
      ·intro w'
       go_simp
       with_reducible rfl
      rotate_left
      ·refine sP (h := ?_)
       rfl
      refine pure_ (i := 3) (N := some 43) (v := ?_) (a' := ?_) #[true, true, true, true, false, false, false, false] rfl rfl (any_of HT_.out (by kernel_rfl)) (fun _ _ _ h => h) (Or.inl ⟨by rfl, ?_⟩) ?_ ?_
      rotate_left
      ·intro w'
       go_simp
       with_reducible rfl
      rotate_left
      ·refine sP (h := ?_)
       rfl
      refine take_ (i := 4) (N := some 44) (v := ?_) (a' := ?_) #[true, true, true, true, true, false, false, false] rfl rfl (take_ofW HT_.out HW_.out (by kernel_rfl)) (fun _ _ _ h => h) (Or.inl ⟨by rfl, ?_⟩) hHeld ?_ ?_
      rotate_left
      ·rintro w' ⟨s0, s1⟩
       go_simp
       with_reducible rfl
      rotate_left
      ·refine sP (h := ?_)
       rfl
      refine one_ (i := 5) (N := none) #[true, true, true, true, true, true, false, false] rfl rfl (one_of HT_.out (by kernel_rfl)) (by decide) (fun K hK => ?_)
      have hs31 : w30.cell? ⟨gb131, 0, none⟩ = some (.int .i64 0) := (blk_cell BK131.out 0).trans rfl
      have hfs31 := blk_frozen BK131.out 0
      have hns31_1 := NB132_131.out
      have hns31_2 := NB138_131.out
      have hms31_1 := NB131_132.out
      have hms31_2 := NB131_138.out
      have hs32 : w30.cell? ⟨gb131, 1, none⟩ = some (.string (⟨#[]⟩ : ByteArray)) := (blk_cell BK131.out 1).trans rfl
      have hfs32 := blk_frozen BK131.out 1
      have hns32_1 := NB132_131.out
      have hns32_2 := NB138_131.out
      have hms32_1 := NB131_132.out
      have hms32_2 := NB131_138.out
      have hs33 : w30.cell? ⟨gb131, 2, none⟩ = some (.int .i64 0) := (blk_cell BK131.out 2).trans rfl
      have hfs33 := blk_frozen BK131.out 2
      have hns33_1 := NB132_131.out
      have hns33_2 := NB138_131.out
      have hms33_1 := NB131_132.out
      have hms33_2 := NB131_138.out
      refine skip_ (w1 := ?_) (by rfl) rfl ?_ ?_
      rotate_left
      ·go_simp
       rfl
      refine hK.out _ _ ⟨((cell_far (p := ⟨gb131, _, none⟩) NB138_131.out _).trans (((cell_far (p := ⟨gb131, _, none⟩) NB138_131.out _).trans (((cell_far (p := ⟨gb131, _, none⟩) NB138_131.out _).trans (hHeld.1)))))), ((cell_far (p := ⟨gb131, _, none⟩) NB138_131.out _).trans (((cell_far (p := ⟨gb131, _, none⟩) NB138_131.out _).trans (((cell_far (p := ⟨gb131, _, none⟩) NB138_131.out _).trans (hHeld.2))))))⟩ (fun hHeld => ?_)
      clear hK K
      refine pure_ (i := 6) (N := some 5) (v := ?_) (a' := ?_) #[true, true, true, true, true, true, true, false] rfl rfl (any_of HT_.out (by kernel_rfl)) (fun _ _ _ h => h) (Or.inl ⟨by rfl, ?_⟩) ?_ ?_
      rotate_left
      ·intro w'
       go_simp
       with_reducible rfl
      rotate_left
      ·refine sP (h := ?_)
       rfl
      refine one_ (i := 7) (N := none) #[true, true, true, true, true, true, true, true] rfl rfl (one_of HT_.out (by kernel_rfl)) (by decide) (fun K hK => ?_)
      have hs34 : w30.cell? ⟨gb132, 0, none⟩ = some (.int .i64 0) := (blk_cell BK132.out 0).trans rfl
      have hfs34 := blk_frozen BK132.out 0
      have hns34_0 := NB131_132.out
      have hns34_2 := NB138_132.out
      have hms34_0 := NB132_131.out
      have hms34_2 := NB132_138.out
      have hs35 : w30.cell? ⟨gb132, 1, none⟩ = some (.int .i64 0) := (blk_cell BK132.out 1).trans rfl
      have hfs35 := blk_frozen BK132.out 1
      have hns35_0 := NB131_132.out
      have hns35_2 := NB138_132.out
      have hms35_0 := NB132_131.out
      have hms35_2 := NB132_138.out
      refine skip_ (w1 := ?_) (by rfl) rfl ?_ ?_
      rotate_left
      ·go_simp
       rfl
      refine hK.out _ _ ⟨((cell_far (p := ⟨gb132, _, none⟩) NB138_132.out _).trans (((cell_far (p := ⟨gb132, _, none⟩) NB138_132.out _).trans (hHeld.1)))), ((cell_far (p := ⟨gb132, _, none⟩) NB138_132.out _).trans (((cell_far (p := ⟨gb132, _, none⟩) NB138_132.out _).trans (hHeld.2))))⟩ (fun hHeld => ?_)
      clear hK K
      refine done_ (done_of HT_.out (by kernel_rfl)) ?_
      try go_wp2
      refine bodyPost_ret (results_list (rs := [.cell 4 59, .tmp 5, .cell 6 54]) rfl (by simp) (.cell gb131 59 #[.int .i64 5, .string t134, .int .i64 a1] (0, 0) _ rfl (by refine fB (h := ?_); refine blk_far ?_ NB131_132.out _; refine fB (h := ?_); refine blk_far ?_ NB131_132.out _; refine fB (h := ?_); refine blk_put (cs := #[.int .i64 5, .string t134, .int .i64 0]) ?_ 2 _ rfl; refine fB (h := ?_); refine blk_put (cs := #[.int .i64 5, .string (⟨#[]⟩ : ByteArray), .int .i64 0]) ?_ 1 _ rfl; refine fB (h := ?_); refine blk_put (cs := #[.int .i64 0, .string (⟨#[]⟩ : ByteArray), .int .i64 0]) ?_ 0 _ rfl; refine fB (h := ?_); exact BK131.out) Tryd.underlying59 rfl (by kernel_rfl) (.tmp (.cell gb132 54 #[.int .i64 t136, .int .i64 t137] (0, 0) _ rfl (by refine fB (h := ?_); refine blk_put (cs := #[.int .i64 t136, .int .i64 0]) ?_ 1 _ rfl; refine fB (h := ?_); refine blk_put (cs := #[.int .i64 0, .int .i64 0]) ?_ 0 _ rfl; refine fB (h := ?_); refine blk_far ?_ NB132_131.out _; refine fB (h := ?_); refine blk_far ?_ NB132_131.out _; refine fB (h := ?_); refine blk_far ?_ NB132_131.out _; refine fB (h := ?_); exact BK132.out) Tryd.underlying54 rfl (by kernel_rfl) .nil)))) rfl ?_
      exact ⟨oE, fW HB.out⟩
    ·rw [if_neg c10] at H
     have c10b0 : (t136 == 0) = false := beq_eq_false_iff_ne.mpr c10
     have c10b1 : (t136 != 0) = true := bne_iff_ne.mpr c10
     simp only [Option.some.injEq, Prod.mk.injEq] at H
     obtain ⟨rfl, rfl, rfl, rfl, rfl, rfl⟩ := H
     try go_wp2_with (first | (go_at_call 88; (with_reducible refine (csvr_quoted.calls kj2 _ _ l0 a1 t134 t135 t136 t137 _ ?side1 ?side2 A9.out).mono ?_); (case side1 => exact fC (Kd.C_below HR0.out HB.out)); (case side2 => exact HC0.out); rintro e w36 ⟨rfl, hb⟩; replace BK131 := Aside0.mk (blk_below (fB BK131.out) hb); replace BK132 := Aside0.mk (blk_below (fB BK132.out) hb); replace HB := Aside0.mk (below_step (fW HB.out) hb); (try clear hb); (try clear hb2); (try clear hk); (try clear hi)) | ((with_reducible refine gate_dst (N := 10) rfl ?_); (try (refine gate_guard (by rfl) ?_; dsimp only)); refine bE (N := 10) (cs := #[.int .i64 0, .int .i64 0]) (t := 54) (h := ?_); intro gb138 hg w37 hbox hb; have BK138 := Aside0.mk (hbox); have GW138 := Aside0.mk (gE hg (fW HB.out)); have GE138 := GW138; replace HB := Aside0.mk (below_step (fW HB.out) hb); have NB131_138 := Aside0.mk ((by rw [hg]; exact Nat.ne_of_lt (blk_lt (g := gb131) (o := .cells #[.int .i64 0, .string (⟨#[]⟩ : ByteArray), .int .i64 0] 59 (0, 0)) (fB BK131.out)) : gb131 ≠ gb138)); have NB138_131 := Aside0.mk ((by rw [hg]; exact Nat.ne_of_gt (blk_lt (g := gb131) (o := .cells #[.int .i64 0, .string (⟨#[]⟩ : ByteArray), .int .i64 0] 59 (0, 0)) (fB BK131.out)) : gb138 ≠ gb131)); replace BK131 := Aside0.mk (blk_below (fB BK131.out) hb); have NB132_138 := Aside0.mk ((by rw [hg]; exact Nat.ne_of_lt (blk_lt (g := gb132) (o := .cells #[.int .i64 0, .int .i64 0] 54 (0, 0)) (fB BK132.out)) : gb132 ≠ gb138)); have NB138_132 := Aside0.mk ((by rw [hg]; exact Nat.ne_of_gt (blk_lt (g := gb132) (o := .cells #[.int .i64 0, .int .i64 0] 54 (0, 0)) (fB BK132.out)) : gb138 ≠ gb132)); replace BK132 := Aside0.mk (blk_below (fB BK132.out) hb); clear hb hbox hg; have hnb38 := NB138_131.out; have hnc38 := NB131_138.out; have hnb39 := NB138_132.out; have hnc39 := NB132_138.out; have hcz40_0 : w37.cell? ⟨gb138, 0, none⟩ = some (.int .i64 0) := (blk_cell BK138.out 0).trans rfl; have hcz40_1 : w37.cell? ⟨gb138, 1, none⟩ = some (.int .i64 0) := (blk_cell BK138.out 1).trans rfl; have hfz40_0 := blk_frozen BK138.out 0; have hfz40_1 := blk_frozen BK138.out 1))
     have n0_ : Aside0 (((w37.setCell ⟨gb138, 0, none⟩ (.int .i64 t136)).setCell ⟨gb138, 1, none⟩ (.int .i64 t137)).heap[gb131]? = some (.cells #[.int .i64 0, .string (⟨#[]⟩ : ByteArray), .int .i64 0] 59 (0, 0))) := ⟨by refine fB (h := ?_); refine blk_far ?_ NB131_138.out _; refine fB (h := ?_); refine blk_far ?_ NB131_138.out _; refine fB (h := ?_); exact BK131.out⟩
     have n1_ : Aside0 (((w37.setCell ⟨gb138, 0, none⟩ (.int .i64 t136)).setCell ⟨gb138, 1, none⟩ (.int .i64 t137)).heap[gb132]? = some (.cells #[.int .i64 0, .int .i64 0] 54 (0, 0))) := ⟨by refine fB (h := ?_); refine blk_far ?_ NB132_138.out _; refine fB (h := ?_); refine blk_far ?_ NB132_138.out _; refine fB (h := ?_); exact BK132.out⟩
     have n2_ : Aside0 (((w37.setCell ⟨gb138, 0, none⟩ (.int .i64 t136)).setCell ⟨gb138, 1, none⟩ (.int .i64 t137)).heap[gb138]? = some (.cells #[.int .i64 t136, .int .i64 t137] 54 (0, 0))) := ⟨by refine fB (h := ?_); refine blk_put (cs := #[.int .i64 t136, .int .i64 0]) ?_ 1 _ rfl; refine fB (h := ?_); refine blk_put (cs := #[.int .i64 0, .int .i64 0]) ?_ 0 _ rfl; refine fB (h := ?_); exact BK138.out⟩
     have n3_ : Aside0 (Below w.heap.size w ((w37.setCell ⟨gb138, 0, none⟩ (.int .i64 t136)).setCell ⟨gb138, 1, none⟩ (.int .i64 t137))) := ⟨fW HB.out⟩
     (try clear BK131)
     (try clear BK132)
     (try clear BK138)
     (try clear HB)
     generalize ((w37.setCell ⟨gb138, 0, none⟩ (.int .i64 t136)).setCell ⟨gb138, 1, none⟩ (.int .i64 t137)) = w41 at n0_ n1_ n2_ n3_ ⊢
     have BK131 := n0_
     have BK132 := n1_
     have BK138 := n2_
     have HB := n3_
     clear n0_ n1_ n2_ n3_
     have n0_ := Aside0.mk (blk_drew BK131.out)
     have n1_ := Aside0.mk (blk_drew BK132.out)
     have n2_ := Aside0.mk (blk_drew BK138.out)
     have n3_ := Aside0.mk (below_drew1 HB.out)
     clear BK131
     clear BK132
     clear BK138
     clear HB
     have BK131 := n0_
     have BK132 := n1_
     have BK138 := n2_
     have HB := n3_
     clear n0_ n1_ n2_ n3_
     refine start_ (n := 8) (S := fun w' => w'.cell? ⟨gb138, 0, none⟩ = some (.int .i64 t136) ∧ w'.cell? ⟨gb138, 1, none⟩ = some (.int .i64 t137)) (ds := []) #[false, false, false, false, false, false, false, false] (by kernel_rfl) rfl rfl ⟨(blk_cell BK138.out 0).trans rfl, (blk_cell BK138.out 1).trans rfl⟩ (fun hHeld => ?_); refine with_tabW csvr_field.tab7 csvr_field.bits7 (fun HT_ HW_ => ?_)
     generalize w41.drew = w42 at BK131 BK132 BK138 HB hHeld ⊢
     refine pure_ (i := 0) (N := some 40) (v := ?_) (a' := ?_) #[true, false, false, false, false, false, false, false] rfl rfl (any_of HT_.out (by kernel_rfl)) (fun _ _ _ h => h) (Or.inl ⟨by rfl, ?_⟩) ?_ ?_
     rotate_left
     ·intro w'
      go_simp
      with_reducible rfl
     rotate_left
     ·refine sP (h := ?_)
      rfl
     refine pure_ (i := 1) (N := some 41) (v := ?_) (a' := ?_) #[true, true, false, false, false, false, false, false] rfl rfl (any_of HT_.out (by kernel_rfl)) (fun _ _ _ h => h) (Or.inl ⟨by rfl, ?_⟩) ?_ ?_
     rotate_left
     ·intro w'
      go_simp
      with_reducible rfl
     rotate_left
     ·refine sP (h := ?_)
      rfl
     refine pure_ (i := 2) (N := some 42) (v := ?_) (a' := ?_) #[true, true, true, false, false, false, false, false] rfl rfl (any_of HT_.out (by kernel_rfl)) (fun _ _ _ h => h) (Or.inl ⟨by rfl, ?_⟩) ?_ ?_
     rotate_left
     ·intro w'
      go_simp
      with_reducible rfl
     rotate_left
     ·refine sP (h := ?_)
      rfl
     refine pure_ (i := 3) (N := some 43) (v := ?_) (a' := ?_) #[true, true, true, true, false, false, false, false] rfl rfl (any_of HT_.out (by kernel_rfl)) (fun _ _ _ h => h) (Or.inl ⟨by rfl, ?_⟩) ?_ ?_
     rotate_left
     ·intro w'
      go_simp
      with_reducible rfl
     rotate_left
     ·refine sP (h := ?_)
      rfl
     refine take_ (i := 4) (N := some 44) (v := ?_) (a' := ?_) #[true, true, true, true, true, false, false, false] rfl rfl (take_ofW HT_.out HW_.out (by kernel_rfl)) (fun _ _ _ h => h) (Or.inl ⟨by rfl, ?_⟩) hHeld ?_ ?_
     rotate_left
     ·rintro w' ⟨s0, s1⟩
      go_simp
      with_reducible rfl
     rotate_left
     ·refine sP (h := ?_)
      rfl
     refine one_ (i := 5) (N := none) #[true, true, true, true, true, true, false, false] rfl rfl (one_of HT_.out (by kernel_rfl)) (by decide) (fun K hK => ?_)
     have hs43 : w42.cell? ⟨gb131, 0, none⟩ = some (.int .i64 0) := (blk_cell BK131.out 0).trans rfl
     have hfs43 := blk_frozen BK131.out 0
     have hns43_1 := NB132_131.out
     have hns43_2 := NB138_131.out
     have hms43_1 := NB131_132.out
     have hms43_2 := NB131_138.out
     have hs44 : w42.cell? ⟨gb131, 1, none⟩ = some (.string (⟨#[]⟩ : ByteArray)) := (blk_cell BK131.out 1).trans rfl
     have hfs44 := blk_frozen BK131.out 1
     have hns44_1 := NB132_131.out
     have hns44_2 := NB138_131.out
     have hms44_1 := NB131_132.out
     have hms44_2 := NB131_138.out
     have hs45 : w42.cell? ⟨gb131, 2, none⟩ = some (.int .i64 0) := (blk_cell BK131.out 2).trans rfl
     have hfs45 := blk_frozen BK131.out 2
     have hns45_1 := NB132_131.out
     have hns45_2 := NB138_131.out
     have hms45_1 := NB131_132.out
     have hms45_2 := NB131_138.out
     refine skip_ (w1 := ?_) (by rfl) rfl ?_ ?_
     rotate_left
     ·go_simp
      rfl
     refine hK.out _ _ ⟨((cell_far (p := ⟨gb131, _, none⟩) NB138_131.out _).trans (((cell_far (p := ⟨gb131, _, none⟩) NB138_131.out _).trans (((cell_far (p := ⟨gb131, _, none⟩) NB138_131.out _).trans (hHeld.1)))))), ((cell_far (p := ⟨gb131, _, none⟩) NB138_131.out _).trans (((cell_far (p := ⟨gb131, _, none⟩) NB138_131.out _).trans (((cell_far (p := ⟨gb131, _, none⟩) NB138_131.out _).trans (hHeld.2))))))⟩ (fun hHeld => ?_)
     clear hK K
     refine pure_ (i := 6) (N := some 5) (v := ?_) (a' := ?_) #[true, true, true, true, true, true, true, false] rfl rfl (any_of HT_.out (by kernel_rfl)) (fun _ _ _ h => h) (Or.inl ⟨by rfl, ?_⟩) ?_ ?_
     rotate_left
     ·intro w'
      go_simp
      with_reducible rfl
     rotate_left
     ·refine sP (h := ?_)
      rfl
     refine one_ (i := 7) (N := none) #[true, true, true, true, true, true, true, true] rfl rfl (one_of HT_.out (by kernel_rfl)) (by decide) (fun K hK => ?_)
     have hs46 : w42.cell? ⟨gb132, 0, none⟩ = some (.int .i64 0) := (blk_cell BK132.out 0).trans rfl
     have hfs46 := blk_frozen BK132.out 0
     have hns46_0 := NB131_132.out
     have hns46_2 := NB138_132.out
     have hms46_0 := NB132_131.out
     have hms46_2 := NB132_138.out
     have hs47 : w42.cell? ⟨gb132, 1, none⟩ = some (.int .i64 0) := (blk_cell BK132.out 1).trans rfl
     have hfs47 := blk_frozen BK132.out 1
     have hns47_0 := NB131_132.out
     have hns47_2 := NB138_132.out
     have hms47_0 := NB132_131.out
     have hms47_2 := NB132_138.out
     refine skip_ (w1 := ?_) (by rfl) rfl ?_ ?_
     rotate_left
     ·go_simp
      rfl
     refine hK.out _ _ ⟨((cell_far (p := ⟨gb132, _, none⟩) NB138_132.out _).trans (((cell_far (p := ⟨gb132, _, none⟩) NB138_132.out _).trans (hHeld.1)))), ((cell_far (p := ⟨gb132, _, none⟩) NB138_132.out _).trans (((cell_far (p := ⟨gb132, _, none⟩) NB138_132.out _).trans (hHeld.2))))⟩ (fun hHeld => ?_)
     clear hK K
     refine done_ (done_of HT_.out (by kernel_rfl)) ?_
     try go_wp2
     refine bodyPost_ret (results_list (rs := [.cell 4 59, .tmp 5, .cell 6 54]) rfl (by simp) (.cell gb131 59 #[.int .i64 5, .string t134, .int .i64 a1] (0, 0) _ rfl (by refine fB (h := ?_); refine blk_far ?_ NB131_132.out _; refine fB (h := ?_); refine blk_far ?_ NB131_132.out _; refine fB (h := ?_); refine blk_put (cs := #[.int .i64 5, .string t134, .int .i64 0]) ?_ 2 _ rfl; refine fB (h := ?_); refine blk_put (cs := #[.int .i64 5, .string (⟨#[]⟩ : ByteArray), .int .i64 0]) ?_ 1 _ rfl; refine fB (h := ?_); refine blk_put (cs := #[.int .i64 0, .string (⟨#[]⟩ : ByteArray), .int .i64 0]) ?_ 0 _ rfl; refine fB (h := ?_); exact BK131.out) Tryd.underlying59 rfl (by kernel_rfl) (.tmp (.cell gb132 54 #[.int .i64 t136, .int .i64 t137] (0, 0) _ rfl (by refine fB (h := ?_); refine blk_put (cs := #[.int .i64 t136, .int .i64 0]) ?_ 1 _ rfl; refine fB (h := ?_); refine blk_put (cs := #[.int .i64 0, .int .i64 0]) ?_ 0 _ rfl; refine fB (h := ?_); refine blk_far ?_ NB132_131.out _; refine fB (h := ?_); refine blk_far ?_ NB132_131.out _; refine fB (h := ?_); refine blk_far ?_ NB132_131.out _; refine fB (h := ?_); exact BK132.out) Tryd.underlying54 rfl (by kernel_rfl) .nil)))) rfl ?_
     exact ⟨oE, fW HB.out⟩
   ·replace c8 := Bool.eq_false_iff.mpr c8
    subst c8
    replace H := iF H
    obtain ⟨⟨t139, t140, t141, t142⟩, A480, H⟩ := bS H
    dsimp only at H
    have A48 := Aside0.mk A480
    clear A480
    by_cases c49 : t141 = 0
    ·rw [if_pos c49] at H
     have c49b0 := qT c49
     have c49b1 := nF c49
     clear c49
     by_cases c50 : (t139.size : Int) > 255
     ·rw [if_pos c50] at H
      have c50b0 := decide_eq_true c50
      have c50b1 : decide (255 < t139.size) = true := decide_eq_true (by omega)
      clear c50
      simp only [Option.some.injEq, Prod.mk.injEq] at H
      obtain ⟨rfl, rfl, rfl, rfl, rfl, rfl⟩ := H
      try go_wp2_with (first | (go_at_call 87; (with_reducible refine (csvr_open.calls kj2 _ _ l0 a1 t139 t140 t141 t142 _ ?side1 ?side2 A48.out).mono ?_); (case side1 => exact fC (Kd.C_below HR0.out HB.out)); (case side2 => exact HC0.out); rintro e w51 ⟨rfl, hb⟩; replace BK131 := Aside0.mk (blk_below (fB BK131.out) hb); replace BK132 := Aside0.mk (blk_below (fB BK132.out) hb); replace HB := Aside0.mk (below_step (fW HB.out) hb); (try clear hb); (try clear hb2); (try clear hk); (try clear hi)) | ((with_reducible refine gate_dst (N := 10) rfl ?_); (try (refine gate_guard (by rfl) ?_; dsimp only)); refine bE (N := 10) (cs := #[.int .i64 0, .int .i64 0]) (t := 54) (h := ?_); intro gb143 hg w52 hbox hb; have BK143 := Aside0.mk (hbox); have GW143 := Aside0.mk (gE hg (fW HB.out)); have GE143 := GW143; replace HB := Aside0.mk (below_step (fW HB.out) hb); have NB131_143 := Aside0.mk ((by rw [hg]; exact Nat.ne_of_lt (blk_lt (g := gb131) (o := .cells #[.int .i64 0, .string (⟨#[]⟩ : ByteArray), .int .i64 0] 59 (0, 0)) (fB BK131.out)) : gb131 ≠ gb143)); have NB143_131 := Aside0.mk ((by rw [hg]; exact Nat.ne_of_gt (blk_lt (g := gb131) (o := .cells #[.int .i64 0, .string (⟨#[]⟩ : ByteArray), .int .i64 0] 59 (0, 0)) (fB BK131.out)) : gb143 ≠ gb131)); replace BK131 := Aside0.mk (blk_below (fB BK131.out) hb); have NB132_143 := Aside0.mk ((by rw [hg]; exact Nat.ne_of_lt (blk_lt (g := gb132) (o := .cells #[.int .i64 0, .int .i64 0] 54 (0, 0)) (fB BK132.out)) : gb132 ≠ gb143)); have NB143_132 := Aside0.mk ((by rw [hg]; exact Nat.ne_of_gt (blk_lt (g := gb132) (o := .cells #[.int .i64 0, .int .i64 0] 54 (0, 0)) (fB BK132.out)) : gb143 ≠ gb132)); replace BK132 := Aside0.mk (blk_below (fB BK132.out) hb); clear hb hbox hg; have hnb53 := NB143_131.out; have hnc53 := NB131_143.out; have hnb54 := NB143_132.out; have hnc54 := NB132_143.out; have hcz55_0 : w52.cell? ⟨gb143, 0, none⟩ = some (.int .i64 0) := (blk_cell BK143.out 0).trans rfl; have hcz55_1 : w52.cell? ⟨gb143, 1, none⟩ = some (.int .i64 0) := (blk_cell BK143.out 1).trans rfl; have hfz55_0 := blk_frozen BK143.out 0; have hfz55_1 := blk_frozen BK143.out 1))
      have n0_ : Aside0 (((((w52.setCell ⟨gb143, 0, none⟩ (.int .i64 t141)).setCell ⟨gb143, 1, none⟩ (.int .i64 t142)).setCell ⟨gb143, 0, none⟩ (.int .i64 2)).setCell ⟨gb143, 1, none⟩ (.int .i64 a1)).heap[gb131]? = some (.cells #[.int .i64 0, .string (⟨#[]⟩ : ByteArray), .int .i64 0] 59 (0, 0))) := ⟨by refine fB (h := ?_); refine blk_far ?_ NB131_143.out _; refine fB (h := ?_); refine blk_far ?_ NB131_143.out _; refine fB (h := ?_); refine blk_far ?_ NB131_143.out _; refine fB (h := ?_); refine blk_far ?_ NB131_143.out _; refine fB (h := ?_); exact BK131.out⟩
      have n1_ : Aside0 (((((w52.setCell ⟨gb143, 0, none⟩ (.int .i64 t141)).setCell ⟨gb143, 1, none⟩ (.int .i64 t142)).setCell ⟨gb143, 0, none⟩ (.int .i64 2)).setCell ⟨gb143, 1, none⟩ (.int .i64 a1)).heap[gb132]? = some (.cells #[.int .i64 0, .int .i64 0] 54 (0, 0))) := ⟨by refine fB (h := ?_); refine blk_far ?_ NB132_143.out _; refine fB (h := ?_); refine blk_far ?_ NB132_143.out _; refine fB (h := ?_); refine blk_far ?_ NB132_143.out _; refine fB (h := ?_); refine blk_far ?_ NB132_143.out _; refine fB (h := ?_); exact BK132.out⟩
      have n2_ : Aside0 (((((w52.setCell ⟨gb143, 0, none⟩ (.int .i64 t141)).setCell ⟨gb143, 1, none⟩ (.int .i64 t142)).setCell ⟨gb143, 0, none⟩ (.int .i64 2)).setCell ⟨gb143, 1, none⟩ (.int .i64 a1)).heap[gb143]? = some (.cells #[.int .i64 2, .int .i64 a1] 54 (0, 0))) := ⟨by refine fB (h := ?_); refine blk_put (cs := #[.int .i64 2, .int .i64 t142]) ?_ 1 _ rfl; refine fB (h := ?_); refine blk_put (cs := #[.int .i64 t141, .int .i64 t142]) ?_ 0 _ rfl; refine fB (h := ?_); refine blk_put (cs := #[.int .i64 t141, .int .i64 0]) ?_ 1 _ rfl; refine fB (h := ?_); refine blk_put (cs := #[.int .i64 0, .int .i64 0]) ?_ 0 _ rfl; refine fB (h := ?_); exact BK143.out⟩
      have n3_ : Aside0 (Below w.heap.size w ((((w52.setCell ⟨gb143, 0, none⟩ (.int .i64 t141)).setCell ⟨gb143, 1, none⟩ (.int .i64 t142)).setCell ⟨gb143, 0, none⟩ (.int .i64 2)).setCell ⟨gb143, 1, none⟩ (.int .i64 a1))) := ⟨fW HB.out⟩
      (try clear BK131)
      (try clear BK132)
      (try clear BK143)
      (try clear HB)
      generalize ((((w52.setCell ⟨gb143, 0, none⟩ (.int .i64 t141)).setCell ⟨gb143, 1, none⟩ (.int .i64 t142)).setCell ⟨gb143, 0, none⟩ (.int .i64 2)).setCell ⟨gb143, 1, none⟩ (.int .i64 a1)) = w56 at n0_ n1_ n2_ n3_ ⊢
      have BK131 := n0_
      have BK132 := n1_
      have BK143 := n2_
      have HB := n3_
      clear n0_ n1_ n2_ n3_
      have n0_ := Aside0.mk (blk_drew BK131.out)
      have n1_ := Aside0.mk (blk_drew BK132.out)
      have n2_ := Aside0.mk (blk_drew BK143.out)
      have n3_ := Aside0.mk (below_drew1 HB.out)
      clear BK131
      clear BK132
      clear BK143
      clear HB
      have BK131 := n0_
      have BK132 := n1_
      have BK143 := n2_
      have HB := n3_
      clear n0_ n1_ n2_ n3_
      refine start_ (n := 8) (S := fun w' => w'.cell? ⟨gb143, 0, none⟩ = some (.int .i64 2) ∧ w'.cell? ⟨gb143, 1, none⟩ = some (.int .i64 a1)) (ds := []) #[false, false, false, false, false, false, false, false] (by kernel_rfl) rfl rfl ⟨(blk_cell BK143.out 0).trans rfl, (blk_cell BK143.out 1).trans rfl⟩ (fun hHeld => ?_); refine with_tabW csvr_field.tab7 csvr_field.bits7 (fun HT_ HW_ => ?_)
      generalize w56.drew = w57 at BK131 BK132 BK143 HB hHeld ⊢
      refine pure_ (i := 0) (N := some 40) (v := ?_) (a' := ?_) #[true, false, false, false, false, false, false, false] rfl rfl (any_of HT_.out (by kernel_rfl)) (fun _ _ _ h => h) (Or.inl ⟨by rfl, ?_⟩) ?_ ?_
      rotate_left
      ·intro w'
       go_simp
       with_reducible rfl
      rotate_left
      ·refine sP (h := ?_)
       rfl
      refine pure_ (i := 1) (N := some 41) (v := ?_) (a' := ?_) #[true, true, false, false, false, false, false, false] rfl rfl (any_of HT_.out (by kernel_rfl)) (fun _ _ _ h => h) (Or.inl ⟨by rfl, ?_⟩) ?_ ?_
      rotate_left
      ·intro w'
       go_simp
       with_reducible rfl
      rotate_left
      ·refine sP (h := ?_)
       rfl
      refine pure_ (i := 2) (N := some 42) (v := ?_) (a' := ?_) #[true, true, true, false, false, false, false, false] rfl rfl (any_of HT_.out (by kernel_rfl)) (fun _ _ _ h => h) (Or.inl ⟨by rfl, ?_⟩) ?_ ?_
      rotate_left
      ·intro w'
       go_simp
       with_reducible rfl
      rotate_left
      ·refine sP (h := ?_)
       rfl
      refine pure_ (i := 3) (N := some 43) (v := ?_) (a' := ?_) #[true, true, true, true, false, false, false, false] rfl rfl (any_of HT_.out (by kernel_rfl)) (fun _ _ _ h => h) (Or.inl ⟨by rfl, ?_⟩) ?_ ?_
      rotate_left
      ·intro w'
       go_simp
       with_reducible rfl
      rotate_left
      ·refine sP (h := ?_)
       rfl
      refine take_ (i := 4) (N := some 44) (v := ?_) (a' := ?_) #[true, true, true, true, true, false, false, false] rfl rfl (take_ofW HT_.out HW_.out (by kernel_rfl)) (fun _ _ _ h => h) (Or.inl ⟨by rfl, ?_⟩) hHeld ?_ ?_
      rotate_left
      ·rintro w' ⟨s0, s1⟩
       go_simp
       with_reducible rfl
      rotate_left
      ·refine sP (h := ?_)
       rfl
      refine one_ (i := 5) (N := none) #[true, true, true, true, true, true, false, false] rfl rfl (one_of HT_.out (by kernel_rfl)) (by decide) (fun K hK => ?_)
      have hs58 : w57.cell? ⟨gb131, 0, none⟩ = some (.int .i64 0) := (blk_cell BK131.out 0).trans rfl
      have hfs58 := blk_frozen BK131.out 0
      have hns58_1 := NB132_131.out
      have hns58_2 := NB143_131.out
      have hms58_1 := NB131_132.out
      have hms58_2 := NB131_143.out
      have hs59 : w57.cell? ⟨gb131, 1, none⟩ = some (.string (⟨#[]⟩ : ByteArray)) := (blk_cell BK131.out 1).trans rfl
      have hfs59 := blk_frozen BK131.out 1
      have hns59_1 := NB132_131.out
      have hns59_2 := NB143_131.out
      have hms59_1 := NB131_132.out
      have hms59_2 := NB131_143.out
      have hs60 : w57.cell? ⟨gb131, 2, none⟩ = some (.int .i64 0) := (blk_cell BK131.out 2).trans rfl
      have hfs60 := blk_frozen BK131.out 2
      have hns60_1 := NB132_131.out
      have hns60_2 := NB143_131.out
      have hms60_1 := NB131_132.out
      have hms60_2 := NB131_143.out
      refine skip_ (w1 := ?_) (by rfl) rfl ?_ ?_
      rotate_left
      ·go_simp
       rfl
      refine hK.out _ _ ⟨((cell_far (p := ⟨gb131, _, none⟩) NB143_131.out _).trans (((cell_far (p := ⟨gb131, _, none⟩) NB143_131.out _).trans (((cell_far (p := ⟨gb131, _, none⟩) NB143_131.out _).trans (hHeld.1)))))), ((cell_far (p := ⟨gb131, _, none⟩) NB143_131.out _).trans (((cell_far (p := ⟨gb131, _, none⟩) NB143_131.out _).trans (((cell_far (p := ⟨gb131, _, none⟩) NB143_131.out _).trans (hHeld.2))))))⟩ (fun hHeld => ?_)
      clear hK K
      refine pure_ (i := 6) (N := some 5) (v := ?_) (a' := ?_) #[true, true, true, true, true, true, true, false] rfl rfl (any_of HT_.out (by kernel_rfl)) (fun _ _ _ h => h) (Or.inl ⟨by rfl, ?_⟩) ?_ ?_
      rotate_left
      ·intro w'
       go_simp
       with_reducible rfl
      rotate_left
      ·refine sP (h := ?_)
       rfl
      refine one_ (i := 7) (N := none) #[true, true, true, true, true, true, true, true] rfl rfl (one_of HT_.out (by kernel_rfl)) (by decide) (fun K hK => ?_)
      have hs61 : w57.cell? ⟨gb132, 0, none⟩ = some (.int .i64 0) := (blk_cell BK132.out 0).trans rfl
      have hfs61 := blk_frozen BK132.out 0
      have hns61_0 := NB131_132.out
      have hns61_2 := NB143_132.out
      have hms61_0 := NB132_131.out
      have hms61_2 := NB132_143.out
      have hs62 : w57.cell? ⟨gb132, 1, none⟩ = some (.int .i64 0) := (blk_cell BK132.out 1).trans rfl
      have hfs62 := blk_frozen BK132.out 1
      have hns62_0 := NB131_132.out
      have hns62_2 := NB143_132.out
      have hms62_0 := NB132_131.out
      have hms62_2 := NB132_143.out
      refine skip_ (w1 := ?_) (by rfl) rfl ?_ ?_
      rotate_left
      ·go_simp
       rfl
      refine hK.out _ _ ⟨((cell_far (p := ⟨gb132, _, none⟩) NB143_132.out _).trans (((cell_far (p := ⟨gb132, _, none⟩) NB143_132.out _).trans (hHeld.1)))), ((cell_far (p := ⟨gb132, _, none⟩) NB143_132.out _).trans (((cell_far (p := ⟨gb132, _, none⟩) NB143_132.out _).trans (hHeld.2))))⟩ (fun hHeld => ?_)
      clear hK K
      refine done_ (done_of HT_.out (by kernel_rfl)) ?_
      try go_wp2
      refine bodyPost_ret (results_list (rs := [.cell 4 59, .tmp 5, .cell 6 54]) rfl (by simp) (.cell gb131 59 #[.int .i64 5, .string t139, .int .i64 a1] (0, 0) _ rfl (by refine fB (h := ?_); refine blk_far ?_ NB131_132.out _; refine fB (h := ?_); refine blk_far ?_ NB131_132.out _; refine fB (h := ?_); refine blk_put (cs := #[.int .i64 5, .string t139, .int .i64 0]) ?_ 2 _ rfl; refine fB (h := ?_); refine blk_put (cs := #[.int .i64 5, .string (⟨#[]⟩ : ByteArray), .int .i64 0]) ?_ 1 _ rfl; refine fB (h := ?_); refine blk_put (cs := #[.int .i64 0, .string (⟨#[]⟩ : ByteArray), .int .i64 0]) ?_ 0 _ rfl; refine fB (h := ?_); exact BK131.out) Tryd.underlying59 rfl (by kernel_rfl) (.tmp (.cell gb132 54 #[.int .i64 2, .int .i64 a1] (0, 0) _ rfl (by refine fB (h := ?_); refine blk_put (cs := #[.int .i64 2, .int .i64 0]) ?_ 1 _ rfl; refine fB (h := ?_); refine blk_put (cs := #[.int .i64 0, .int .i64 0]) ?_ 0 _ rfl; refine fB (h := ?_); refine blk_far ?_ NB132_131.out _; refine fB (h := ?_); refine blk_far ?_ NB132_131.out _; refine fB (h := ?_); refine blk_far ?_ NB132_131.out _; refine fB (h := ?_); exact BK132.out) Tryd.underlying54 rfl (by kernel_rfl) .nil)))) rfl ?_
      exact ⟨oE, fW HB.out⟩
     ·rw [if_neg c50] at H
      have c50b0 := decide_eq_false c50
      have c50b1 : decide (255 < t139.size) = false := decide_eq_false (by omega)
      clear c50
      simp only [Option.some.injEq, Prod.mk.injEq] at H
      obtain ⟨rfl, rfl, rfl, rfl, rfl, rfl⟩ := H
      try go_wp2_with (first | (go_at_call 87; (with_reducible refine (csvr_open.calls kj2 _ _ l0 a1 t139 t140 t141 t142 _ ?side1 ?side2 A48.out).mono ?_); (case side1 => exact fC (Kd.C_below HR0.out HB.out)); (case side2 => exact HC0.out); rintro e w63 ⟨rfl, hb⟩; replace BK131 := Aside0.mk (blk_below (fB BK131.out) hb); replace BK132 := Aside0.mk (blk_below (fB BK132.out) hb); replace HB := Aside0.mk (below_step (fW HB.out) hb); (try clear hb); (try clear hb2); (try clear hk); (try clear hi)) | ((with_reducible refine gate_dst (N := 10) rfl ?_); (try (refine gate_guard (by rfl) ?_; dsimp only)); refine bE (N := 10) (cs := #[.int .i64 0, .int .i64 0]) (t := 54) (h := ?_); intro gb143 hg w64 hbox hb; have BK143 := Aside0.mk (hbox); have GW143 := Aside0.mk (gE hg (fW HB.out)); have GE143 := GW143; replace HB := Aside0.mk (below_step (fW HB.out) hb); have NB131_143 := Aside0.mk ((by rw [hg]; exact Nat.ne_of_lt (blk_lt (g := gb131) (o := .cells #[.int .i64 0, .string (⟨#[]⟩ : ByteArray), .int .i64 0] 59 (0, 0)) (fB BK131.out)) : gb131 ≠ gb143)); have NB143_131 := Aside0.mk ((by rw [hg]; exact Nat.ne_of_gt (blk_lt (g := gb131) (o := .cells #[.int .i64 0, .string (⟨#[]⟩ : ByteArray), .int .i64 0] 59 (0, 0)) (fB BK131.out)) : gb143 ≠ gb131)); replace BK131 := Aside0.mk (blk_below (fB BK131.out) hb); have NB132_143 := Aside0.mk ((by rw [hg]; exact Nat.ne_of_lt (blk_lt (g := gb132) (o := .cells #[.int .i64 0, .int .i64 0] 54 (0, 0)) (fB BK132.out)) : gb132 ≠ gb143)); have NB143_132 := Aside0.mk ((by rw [hg]; exact Nat.ne_of_gt (blk_lt (g := gb132) (o := .cells #[.int .i64 0, .int .i64 0] 54 (0, 0)) (fB BK132.out)) : gb143 ≠ gb132)); replace BK132 := Aside0.mk (blk_below (fB BK132.out) hb); clear hb hbox hg; have hnb65 := NB143_131.out; have hnc65 := NB131_143.out; have hnb66 := NB143_132.out; have hnc66 := NB132_143.out; have hcz67_0 : w64.cell? ⟨gb143, 0, none⟩ = some (.int .i64 0) := (blk_cell BK143.out 0).trans rfl; have hcz67_1 : w64.cell? ⟨gb143, 1, none⟩ = some (.int .i64 0) := (blk_cell BK143.out 1).trans rfl; have hfz67_0 := blk_frozen BK143.out 0; have hfz67_1 := blk_frozen BK143.out 1))
      have n0_ : Aside0 (((w64.setCell ⟨gb143, 0, none⟩ (.int .i64 t141)).setCell ⟨gb143, 1, none⟩ (.int .i64 t142)).heap[gb131]? = some (.cells #[.int .i64 0, .string (⟨#[]⟩ : ByteArray), .int .i64 0] 59 (0, 0))) := ⟨by refine fB (h := ?_); refine blk_far ?_ NB131_143.out _; refine fB (h := ?_); refine blk_far ?_ NB131_143.out _; refine fB (h := ?_); exact BK131.out⟩
      have n1_ : Aside0 (((w64.setCell ⟨gb143, 0, none⟩ (.int .i64 t141)).setCell ⟨gb143, 1, none⟩ (.int .i64 t142)).heap[gb132]? = some (.cells #[.int .i64 0, .int .i64 0] 54 (0, 0))) := ⟨by refine fB (h := ?_); refine blk_far ?_ NB132_143.out _; refine fB (h := ?_); refine blk_far ?_ NB132_143.out _; refine fB (h := ?_); exact BK132.out⟩
      have n2_ : Aside0 (((w64.setCell ⟨gb143, 0, none⟩ (.int .i64 t141)).setCell ⟨gb143, 1, none⟩ (.int .i64 t142)).heap[gb143]? = some (.cells #[.int .i64 t141, .int .i64 t142] 54 (0, 0))) := ⟨by refine fB (h := ?_); refine blk_put (cs := #[.int .i64 t141, .int .i64 0]) ?_ 1 _ rfl; refine fB (h := ?_); refine blk_put (cs := #[.int .i64 0, .int .i64 0]) ?_ 0 _ rfl; refine fB (h := ?_); exact BK143.out⟩
      have n3_ : Aside0 (Below w.heap.size w ((w64.setCell ⟨gb143, 0, none⟩ (.int .i64 t141)).setCell ⟨gb143, 1, none⟩ (.int .i64 t142))) := ⟨fW HB.out⟩
      (try clear BK131)
      (try clear BK132)
      (try clear BK143)
      (try clear HB)
      generalize ((w64.setCell ⟨gb143, 0, none⟩ (.int .i64 t141)).setCell ⟨gb143, 1, none⟩ (.int .i64 t142)) = w68 at n0_ n1_ n2_ n3_ ⊢
      have BK131 := n0_
      have BK132 := n1_
      have BK143 := n2_
      have HB := n3_
      clear n0_ n1_ n2_ n3_
      have n0_ := Aside0.mk (blk_drew BK131.out)
      have n1_ := Aside0.mk (blk_drew BK132.out)
      have n2_ := Aside0.mk (blk_drew BK143.out)
      have n3_ := Aside0.mk (below_drew1 HB.out)
      clear BK131
      clear BK132
      clear BK143
      clear HB
      have BK131 := n0_
      have BK132 := n1_
      have BK143 := n2_
      have HB := n3_
      clear n0_ n1_ n2_ n3_
      refine start_ (n := 8) (S := fun w' => w'.cell? ⟨gb143, 0, none⟩ = some (.int .i64 t141) ∧ w'.cell? ⟨gb143, 1, none⟩ = some (.int .i64 t142)) (ds := []) #[false, false, false, false, false, false, false, false] (by kernel_rfl) rfl rfl ⟨(blk_cell BK143.out 0).trans rfl, (blk_cell BK143.out 1).trans rfl⟩ (fun hHeld => ?_); refine with_tabW csvr_field.tab7 csvr_field.bits7 (fun HT_ HW_ => ?_)
      generalize w68.drew = w69 at BK131 BK132 BK143 HB hHeld ⊢
      refine pure_ (i := 0) (N := some 40) (v := ?_) (a' := ?_) #[true, false, false, false, false, false, false, false] rfl rfl (any_of HT_.out (by kernel_rfl)) (fun _ _ _ h => h) (Or.inl ⟨by rfl, ?_⟩) ?_ ?_
      rotate_left
      ·intro w'
       go_simp
       with_reducible rfl
      rotate_left
      ·refine sP (h := ?_)
       rfl
      refine pure_ (i := 1) (N := some 41) (v := ?_) (a' := ?_) #[true, true, false, false, false, false, false, false] rfl rfl (any_of HT_.out (by kernel_rfl)) (fun _ _ _ h => h) (Or.inl ⟨by rfl, ?_⟩) ?_ ?_
      rotate_left
      ·intro w'
       go_simp
       with_reducible rfl
      rotate_left
      ·refine sP (h := ?_)
       rfl
      refine pure_ (i := 2) (N := some 42) (v := ?_) (a' := ?_) #[true, true, true, false, false, false, false, false] rfl rfl (any_of HT_.out (by kernel_rfl)) (fun _ _ _ h => h) (Or.inl ⟨by rfl, ?_⟩) ?_ ?_
      rotate_left
      ·intro w'
       go_simp
       with_reducible rfl
      rotate_left
      ·refine sP (h := ?_)
       rfl
      refine pure_ (i := 3) (N := some 43) (v := ?_) (a' := ?_) #[true, true, true, true, false, false, false, false] rfl rfl (any_of HT_.out (by kernel_rfl)) (fun _ _ _ h => h) (Or.inl ⟨by rfl, ?_⟩) ?_ ?_
      rotate_left
      ·intro w'
       go_simp
       with_reducible rfl
      rotate_left
      ·refine sP (h := ?_)
       rfl
      refine take_ (i := 4) (N := some 44) (v := ?_) (a' := ?_) #[true, true, true, true, true, false, false, false] rfl rfl (take_ofW HT_.out HW_.out (by kernel_rfl)) (fun _ _ _ h => h) (Or.inl ⟨by rfl, ?_⟩) hHeld ?_ ?_
      rotate_left
      ·rintro w' ⟨s0, s1⟩
       go_simp
       with_reducible rfl
      rotate_left
      ·refine sP (h := ?_)
       rfl
      refine one_ (i := 5) (N := none) #[true, true, true, true, true, true, false, false] rfl rfl (one_of HT_.out (by kernel_rfl)) (by decide) (fun K hK => ?_)
      have hs70 : w69.cell? ⟨gb131, 0, none⟩ = some (.int .i64 0) := (blk_cell BK131.out 0).trans rfl
      have hfs70 := blk_frozen BK131.out 0
      have hns70_1 := NB132_131.out
      have hns70_2 := NB143_131.out
      have hms70_1 := NB131_132.out
      have hms70_2 := NB131_143.out
      have hs71 : w69.cell? ⟨gb131, 1, none⟩ = some (.string (⟨#[]⟩ : ByteArray)) := (blk_cell BK131.out 1).trans rfl
      have hfs71 := blk_frozen BK131.out 1
      have hns71_1 := NB132_131.out
      have hns71_2 := NB143_131.out
      have hms71_1 := NB131_132.out
      have hms71_2 := NB131_143.out
      have hs72 : w69.cell? ⟨gb131, 2, none⟩ = some (.int .i64 0) := (blk_cell BK131.out 2).trans rfl
      have hfs72 := blk_frozen BK131.out 2
      have hns72_1 := NB132_131.out
      have hns72_2 := NB143_131.out
      have hms72_1 := NB131_132.out
      have hms72_2 := NB131_143.out
      refine skip_ (w1 := ?_) (by rfl) rfl ?_ ?_
      rotate_left
      ·go_simp
       rfl
      refine hK.out _ _ ⟨((cell_far (p := ⟨gb131, _, none⟩) NB143_131.out _).trans (((cell_far (p := ⟨gb131, _, none⟩) NB143_131.out _).trans (((cell_far (p := ⟨gb131, _, none⟩) NB143_131.out _).trans (hHeld.1)))))), ((cell_far (p := ⟨gb131, _, none⟩) NB143_131.out _).trans (((cell_far (p := ⟨gb131, _, none⟩) NB143_131.out _).trans (((cell_far (p := ⟨gb131, _, none⟩) NB143_131.out _).trans (hHeld.2))))))⟩ (fun hHeld => ?_)
      clear hK K
      refine pure_ (i := 6) (N := some 5) (v := ?_) (a' := ?_) #[true, true, true, true, true, true, true, false] rfl rfl (any_of HT_.out (by kernel_rfl)) (fun _ _ _ h => h) (Or.inl ⟨by rfl, ?_⟩) ?_ ?_
      rotate_left
      ·intro w'
       go_simp
       with_reducible rfl
      rotate_left
      ·refine sP (h := ?_)
       rfl
      refine one_ (i := 7) (N := none) #[true, true, true, true, true, true, true, true] rfl rfl (one_of HT_.out (by kernel_rfl)) (by decide) (fun K hK => ?_)
      have hs73 : w69.cell? ⟨gb132, 0, none⟩ = some (.int .i64 0) := (blk_cell BK132.out 0).trans rfl
      have hfs73 := blk_frozen BK132.out 0
      have hns73_0 := NB131_132.out
      have hns73_2 := NB143_132.out
      have hms73_0 := NB132_131.out
      have hms73_2 := NB132_143.out
      have hs74 : w69.cell? ⟨gb132, 1, none⟩ = some (.int .i64 0) := (blk_cell BK132.out 1).trans rfl
      have hfs74 := blk_frozen BK132.out 1
      have hns74_0 := NB131_132.out
      have hns74_2 := NB143_132.out
      have hms74_0 := NB132_131.out
      have hms74_2 := NB132_143.out
      refine skip_ (w1 := ?_) (by rfl) rfl ?_ ?_
      rotate_left
      ·go_simp
       rfl
      refine hK.out _ _ ⟨((cell_far (p := ⟨gb132, _, none⟩) NB143_132.out _).trans (((cell_far (p := ⟨gb132, _, none⟩) NB143_132.out _).trans (hHeld.1)))), ((cell_far (p := ⟨gb132, _, none⟩) NB143_132.out _).trans (((cell_far (p := ⟨gb132, _, none⟩) NB143_132.out _).trans (hHeld.2))))⟩ (fun hHeld => ?_)
      clear hK K
      refine done_ (done_of HT_.out (by kernel_rfl)) ?_
      try go_wp2
      refine bodyPost_ret (results_list (rs := [.cell 4 59, .tmp 5, .cell 6 54]) rfl (by simp) (.cell gb131 59 #[.int .i64 5, .string t139, .int .i64 a1] (0, 0) _ rfl (by refine fB (h := ?_); refine blk_far ?_ NB131_132.out _; refine fB (h := ?_); refine blk_far ?_ NB131_132.out _; refine fB (h := ?_); refine blk_put (cs := #[.int .i64 5, .string t139, .int .i64 0]) ?_ 2 _ rfl; refine fB (h := ?_); refine blk_put (cs := #[.int .i64 5, .string (⟨#[]⟩ : ByteArray), .int .i64 0]) ?_ 1 _ rfl; refine fB (h := ?_); refine blk_put (cs := #[.int .i64 0, .string (⟨#[]⟩ : ByteArray), .int .i64 0]) ?_ 0 _ rfl; refine fB (h := ?_); exact BK131.out) Tryd.underlying59 rfl (by kernel_rfl) (.tmp (.cell gb132 54 #[.int .i64 t141, .int .i64 t142] (0, 0) _ rfl (by refine fB (h := ?_); refine blk_put (cs := #[.int .i64 t141, .int .i64 0]) ?_ 1 _ rfl; refine fB (h := ?_); refine blk_put (cs := #[.int .i64 0, .int .i64 0]) ?_ 0 _ rfl; refine fB (h := ?_); refine blk_far ?_ NB132_131.out _; refine fB (h := ?_); refine blk_far ?_ NB132_131.out _; refine fB (h := ?_); refine blk_far ?_ NB132_131.out _; refine fB (h := ?_); exact BK132.out) Tryd.underlying54 rfl (by kernel_rfl) .nil)))) rfl ?_
      exact ⟨oE, fW HB.out⟩
    ·rw [if_neg c49] at H
     have c49b0 : (t141 == 0) = false := beq_eq_false_iff_ne.mpr c49
     have c49b1 : (t141 != 0) = true := bne_iff_ne.mpr c49
     simp only [Option.some.injEq, Prod.mk.injEq] at H
     obtain ⟨rfl, rfl, rfl, rfl, rfl, rfl⟩ := H
     try go_wp2_with (first | (go_at_call 87; (with_reducible refine (csvr_open.calls kj2 _ _ l0 a1 t139 t140 t141 t142 _ ?side1 ?side2 A48.out).mono ?_); (case side1 => exact fC (Kd.C_below HR0.out HB.out)); (case side2 => exact HC0.out); rintro e w75 ⟨rfl, hb⟩; replace BK131 := Aside0.mk (blk_below (fB BK131.out) hb); replace BK132 := Aside0.mk (blk_below (fB BK132.out) hb); replace HB := Aside0.mk (below_step (fW HB.out) hb); (try clear hb); (try clear hb2); (try clear hk); (try clear hi)) | ((with_reducible refine gate_dst (N := 10) rfl ?_); (try (refine gate_guard (by rfl) ?_; dsimp only)); refine bE (N := 10) (cs := #[.int .i64 0, .int .i64 0]) (t := 54) (h := ?_); intro gb143 hg w76 hbox hb; have BK143 := Aside0.mk (hbox); have GW143 := Aside0.mk (gE hg (fW HB.out)); have GE143 := GW143; replace HB := Aside0.mk (below_step (fW HB.out) hb); have NB131_143 := Aside0.mk ((by rw [hg]; exact Nat.ne_of_lt (blk_lt (g := gb131) (o := .cells #[.int .i64 0, .string (⟨#[]⟩ : ByteArray), .int .i64 0] 59 (0, 0)) (fB BK131.out)) : gb131 ≠ gb143)); have NB143_131 := Aside0.mk ((by rw [hg]; exact Nat.ne_of_gt (blk_lt (g := gb131) (o := .cells #[.int .i64 0, .string (⟨#[]⟩ : ByteArray), .int .i64 0] 59 (0, 0)) (fB BK131.out)) : gb143 ≠ gb131)); replace BK131 := Aside0.mk (blk_below (fB BK131.out) hb); have NB132_143 := Aside0.mk ((by rw [hg]; exact Nat.ne_of_lt (blk_lt (g := gb132) (o := .cells #[.int .i64 0, .int .i64 0] 54 (0, 0)) (fB BK132.out)) : gb132 ≠ gb143)); have NB143_132 := Aside0.mk ((by rw [hg]; exact Nat.ne_of_gt (blk_lt (g := gb132) (o := .cells #[.int .i64 0, .int .i64 0] 54 (0, 0)) (fB BK132.out)) : gb143 ≠ gb132)); replace BK132 := Aside0.mk (blk_below (fB BK132.out) hb); clear hb hbox hg; have hnb77 := NB143_131.out; have hnc77 := NB131_143.out; have hnb78 := NB143_132.out; have hnc78 := NB132_143.out; have hcz79_0 : w76.cell? ⟨gb143, 0, none⟩ = some (.int .i64 0) := (blk_cell BK143.out 0).trans rfl; have hcz79_1 : w76.cell? ⟨gb143, 1, none⟩ = some (.int .i64 0) := (blk_cell BK143.out 1).trans rfl; have hfz79_0 := blk_frozen BK143.out 0; have hfz79_1 := blk_frozen BK143.out 1))
     have n0_ : Aside0 (((w76.setCell ⟨gb143, 0, none⟩ (.int .i64 t141)).setCell ⟨gb143, 1, none⟩ (.int .i64 t142)).heap[gb131]? = some (.cells #[.int .i64 0, .string (⟨#[]⟩ : ByteArray), .int .i64 0] 59 (0, 0))) := ⟨by refine fB (h := ?_); refine blk_far ?_ NB131_143.out _; refine fB (h := ?_); refine blk_far ?_ NB131_143.out _; refine fB (h := ?_); exact BK131.out⟩
     have n1_ : Aside0 (((w76.setCell ⟨gb143, 0, none⟩ (.int .i64 t141)).setCell ⟨gb143, 1, none⟩ (.int .i64 t142)).heap[gb132]? = some (.cells #[.int .i64 0, .int .i64 0] 54 (0, 0))) := ⟨by refine fB (h := ?_); refine blk_far ?_ NB132_143.out _; refine fB (h := ?_); refine blk_far ?_ NB132_143.out _; refine fB (h := ?_); exact BK132.out⟩
     have n2_ : Aside0 (((w76.setCell ⟨gb143, 0, none⟩ (.int .i64 t141)).setCell ⟨gb143, 1, none⟩ (.int .i64 t142)).heap[gb143]? = some (.cells #[.int .i64 t141, .int .i64 t142] 54 (0, 0))) := ⟨by refine fB (h := ?_); refine blk_put (cs := #[.int .i64 t141, .int .i64 0]) ?_ 1 _ rfl; refine fB (h := ?_); refine blk_put (cs := #[.int .i64 0, .int .i64 0]) ?_ 0 _ rfl; refine fB (h := ?_); exact BK143.out⟩
     have n3_ : Aside0 (Below w.heap.size w ((w76.setCell ⟨gb143, 0, none⟩ (.int .i64 t141)).setCell ⟨gb143, 1, none⟩ (.int .i64 t142))) := ⟨fW HB.out⟩
     (try clear BK131)
     (try clear BK132)
     (try clear BK143)
     (try clear HB)
     generalize ((w76.setCell ⟨gb143, 0, none⟩ (.int .i64 t141)).setCell ⟨gb143, 1, none⟩ (.int .i64 t142)) = w80 at n0_ n1_ n2_ n3_ ⊢
     have BK131 := n0_
     have BK132 := n1_
     have BK143 := n2_
     have HB := n3_
     clear n0_ n1_ n2_ n3_
     have n0_ := Aside0.mk (blk_drew BK131.out)
     have n1_ := Aside0.mk (blk_drew BK132.out)
     have n2_ := Aside0.mk (blk_drew BK143.out)
     have n3_ := Aside0.mk (below_drew1 HB.out)
     clear BK131
     clear BK132
     clear BK143
     clear HB
     have BK131 := n0_
     have BK132 := n1_
     have BK143 := n2_
     have HB := n3_
     clear n0_ n1_ n2_ n3_
     refine start_ (n := 8) (S := fun w' => w'.cell? ⟨gb143, 0, none⟩ = some (.int .i64 t141) ∧ w'.cell? ⟨gb143, 1, none⟩ = some (.int .i64 t142)) (ds := []) #[false, false, false, false, false, false, false, false] (by kernel_rfl) rfl rfl ⟨(blk_cell BK143.out 0).trans rfl, (blk_cell BK143.out 1).trans rfl⟩ (fun hHeld => ?_); refine with_tabW csvr_field.tab7 csvr_field.bits7 (fun HT_ HW_ => ?_)
     generalize w80.drew = w81 at BK131 BK132 BK143 HB hHeld ⊢
     refine pure_ (i := 0) (N := some 40) (v := ?_) (a' := ?_) #[true, false, false, false, false, false, false, false] rfl rfl (any_of HT_.out (by kernel_rfl)) (fun _ _ _ h => h) (Or.inl ⟨by rfl, ?_⟩) ?_ ?_
     rotate_left
     ·intro w'
      go_simp
      with_reducible rfl
     rotate_left
     ·refine sP (h := ?_)
      rfl
     refine pure_ (i := 1) (N := some 41) (v := ?_) (a' := ?_) #[true, true, false, false, false, false, false, false] rfl rfl (any_of HT_.out (by kernel_rfl)) (fun _ _ _ h => h) (Or.inl ⟨by rfl, ?_⟩) ?_ ?_
     rotate_left
     ·intro w'
      go_simp
      with_reducible rfl
     rotate_left
     ·refine sP (h := ?_)
      rfl
     refine pure_ (i := 2) (N := some 42) (v := ?_) (a' := ?_) #[true, true, true, false, false, false, false, false] rfl rfl (any_of HT_.out (by kernel_rfl)) (fun _ _ _ h => h) (Or.inl ⟨by rfl, ?_⟩) ?_ ?_
     rotate_left
     ·intro w'
      go_simp
      with_reducible rfl
     rotate_left
     ·refine sP (h := ?_)
      rfl
     refine pure_ (i := 3) (N := some 43) (v := ?_) (a' := ?_) #[true, true, true, true, false, false, false, false] rfl rfl (any_of HT_.out (by kernel_rfl)) (fun _ _ _ h => h) (Or.inl ⟨by rfl, ?_⟩) ?_ ?_
     rotate_left
     ·intro w'
      go_simp
      with_reducible rfl
     rotate_left
     ·refine sP (h := ?_)
      rfl
     refine take_ (i := 4) (N := some 44) (v := ?_) (a' := ?_) #[true, true, true, true, true, false, false, false] rfl rfl (take_ofW HT_.out HW_.out (by kernel_rfl)) (fun _ _ _ h => h) (Or.inl ⟨by rfl, ?_⟩) hHeld ?_ ?_
     rotate_left
     ·rintro w' ⟨s0, s1⟩
      go_simp
      with_reducible rfl
     rotate_left
     ·refine sP (h := ?_)
      rfl
     refine one_ (i := 5) (N := none) #[true, true, true, true, true, true, false, false] rfl rfl (one_of HT_.out (by kernel_rfl)) (by decide) (fun K hK => ?_)
     have hs82 : w81.cell? ⟨gb131, 0, none⟩ = some (.int .i64 0) := (blk_cell BK131.out 0).trans rfl
     have hfs82 := blk_frozen BK131.out 0
     have hns82_1 := NB132_131.out
     have hns82_2 := NB143_131.out
     have hms82_1 := NB131_132.out
     have hms82_2 := NB131_143.out
     have hs83 : w81.cell? ⟨gb131, 1, none⟩ = some (.string (⟨#[]⟩ : ByteArray)) := (blk_cell BK131.out 1).trans rfl
     have hfs83 := blk_frozen BK131.out 1
     have hns83_1 := NB132_131.out
     have hns83_2 := NB143_131.out
     have hms83_1 := NB131_132.out
     have hms83_2 := NB131_143.out
     have hs84 : w81.cell? ⟨gb131, 2, none⟩ = some (.int .i64 0) := (blk_cell BK131.out 2).trans rfl
     have hfs84 := blk_frozen BK131.out 2
     have hns84_1 := NB132_131.out
     have hns84_2 := NB143_131.out
     have hms84_1 := NB131_132.out
     have hms84_2 := NB131_143.out
     refine skip_ (w1 := ?_) (by rfl) rfl ?_ ?_
     rotate_left
     ·go_simp
      rfl
     refine hK.out _ _ ⟨((cell_far (p := ⟨gb131, _, none⟩) NB143_131.out _).trans (((cell_far (p := ⟨gb131, _, none⟩) NB143_131.out _).trans (((cell_far (p := ⟨gb131, _, none⟩) NB143_131.out _).trans (hHeld.1)))))), ((cell_far (p := ⟨gb131, _, none⟩) NB143_131.out _).trans (((cell_far (p := ⟨gb131, _, none⟩) NB143_131.out _).trans (((cell_far (p := ⟨gb131, _, none⟩) NB143_131.out _).trans (hHeld.2))))))⟩ (fun hHeld => ?_)
     clear hK K
     refine pure_ (i := 6) (N := some 5) (v := ?_) (a' := ?_) #[true, true, true, true, true, true, true, false] rfl rfl (any_of HT_.out (by kernel_rfl)) (fun _ _ _ h => h) (Or.inl ⟨by rfl, ?_⟩) ?_ ?_
     rotate_left
     ·intro w'
      go_simp
      with_reducible rfl
     rotate_left
     ·refine sP (h := ?_)
      rfl
     refine one_ (i := 7) (N := none) #[true, true, true, true, true, true, true, true] rfl rfl (one_of HT_.out (by kernel_rfl)) (by decide) (fun K hK => ?_)
     have hs85 : w81.cell? ⟨gb132, 0, none⟩ = some (.int .i64 0) := (blk_cell BK132.out 0).trans rfl
     have hfs85 := blk_frozen BK132.out 0
     have hns85_0 := NB131_132.out
     have hns85_2 := NB143_132.out
     have hms85_0 := NB132_131.out
     have hms85_2 := NB132_143.out
     have hs86 : w81.cell? ⟨gb132, 1, none⟩ = some (.int .i64 0) := (blk_cell BK132.out 1).trans rfl
     have hfs86 := blk_frozen BK132.out 1
     have hns86_0 := NB131_132.out
     have hns86_2 := NB143_132.out
     have hms86_0 := NB132_131.out
     have hms86_2 := NB132_143.out
     refine skip_ (w1 := ?_) (by rfl) rfl ?_ ?_
     rotate_left
     ·go_simp
      rfl
     refine hK.out _ _ ⟨((cell_far (p := ⟨gb132, _, none⟩) NB143_132.out _).trans (((cell_far (p := ⟨gb132, _, none⟩) NB143_132.out _).trans (hHeld.1)))), ((cell_far (p := ⟨gb132, _, none⟩) NB143_132.out _).trans (((cell_far (p := ⟨gb132, _, none⟩) NB143_132.out _).trans (hHeld.2))))⟩ (fun hHeld => ?_)
     clear hK K
     refine done_ (done_of HT_.out (by kernel_rfl)) ?_
     try go_wp2
     refine bodyPost_ret (results_list (rs := [.cell 4 59, .tmp 5, .cell 6 54]) rfl (by simp) (.cell gb131 59 #[.int .i64 5, .string t139, .int .i64 a1] (0, 0) _ rfl (by refine fB (h := ?_); refine blk_far ?_ NB131_132.out _; refine fB (h := ?_); refine blk_far ?_ NB131_132.out _; refine fB (h := ?_); refine blk_put (cs := #[.int .i64 5, .string t139, .int .i64 0]) ?_ 2 _ rfl; refine fB (h := ?_); refine blk_put (cs := #[.int .i64 5, .string (⟨#[]⟩ : ByteArray), .int .i64 0]) ?_ 1 _ rfl; refine fB (h := ?_); refine blk_put (cs := #[.int .i64 0, .string (⟨#[]⟩ : ByteArray), .int .i64 0]) ?_ 0 _ rfl; refine fB (h := ?_); exact BK131.out) Tryd.underlying59 rfl (by kernel_rfl) (.tmp (.cell gb132 54 #[.int .i64 t141, .int .i64 t142] (0, 0) _ rfl (by refine fB (h := ?_); refine blk_put (cs := #[.int .i64 t141, .int .i64 0]) ?_ 1 _ rfl; refine fB (h := ?_); refine blk_put (cs := #[.int .i64 0, .int .i64 0]) ?_ 0 _ rfl; refine fB (h := ?_); refine blk_far ?_ NB132_131.out _; refine fB (h := ?_); refine blk_far ?_ NB132_131.out _; refine fB (h := ?_); refine blk_far ?_ NB132_131.out _; refine fB (h := ?_); exact BK132.out) Tryd.underlying54 rfl (by kernel_rfl) .nil)))) rfl ?_
     exact ⟨oE, fW HB.out⟩

end Go.Proofs.YtcgchblljhbdaaaDoor.C
