-- Printed by this session's own program (wip/xprint) out of the translation. Lean checks it.
import Derived.Test.YtcgchblljhbdaaaDoorCx0
namespace Go.Proofs.YtcgchblljhbdaaaDoor.C
open Go.Proofs.YtcgchblljhbdaaaDoor
open Go.RowKit Go.Proofs.YtcgchblljhbdaaaDoorW.PrintWords Go.Proofs.YtcgchblljhbdaaaDoorW.PrintLast Go.Proofs.YtcgchblljhbdaaaDoorW.PrintMore
attribute [local go_sem] max2_int min2_int max_two min_two max_three min_three max_four min_four   -- for this text's walks alone
set_option linter.unusedVariables false
set_option linter.unusedSimpArgs false

/-! ### gleberef7_PrintRecords: function 39 -/
mutual
def gleberef7_PrintRecords.l0 : Nat → List (List ByteArray) → List Int → Int → Option (List Int)
 | 0, _, _, _ => none
 | k + 1, x0, x3, x4 => if x4 < (x0.length : Int) then (gleberef7_PrintRecords.l1 k x0 x3 x4 0) else (some x3)
def gleberef7_PrintRecords.l1 : Nat → List (List ByteArray) → List Int → Int → Int → Option (List Int)
 | 0, _, _, _, _ => none
 | k + 1, x0, x3, x4, x5 => if 0 ≤ x4 then (if x4 < (x0.length : Int) then (if x5 < ((rd_L5 x0 x4).length : Int) then (if x5 > 0 then (if x3.length < 140737488355328 then (gleberef7_PrintRecords.j2 k x0 (x3 ++ [44]) x4 x5) else (none)) else (gleberef7_PrintRecords.j2 k x0 x3 x4 x5)) else (if x3.length < 140737488355328 then (gleberef7_PrintRecords.l0 k x0 (x3 ++ [10]) (wrap64 (x4 + 1))) else (none))) else (none)) else (none)
def gleberef7_PrintRecords.j2 : Nat → List (List ByteArray) → List Int → Int → Int → Option (List Int)
 | 0, _, _, _, _ => none
 | k + 1, x0, x3, x4, x5 => if 0 ≤ x4 then (if x4 < (x0.length : Int) then (if 0 ≤ x5 then (if x5 < ((rd_L5 x0 x4).length : Int) then (if (rdOf ByteArray.empty (rd_L5 x0 x4) x5).toList = ([] : List UInt8) then (gleberef7_PrintRecords.j3 k x0 x3 x4 x5 (rdOf ByteArray.empty (rd_L5 x0 x4) x5) (((rd_L5 x0 x4).length : Int) == 1)) else (gleberef7_PrintRecords.j3 k x0 x3 x4 x5 (rdOf ByteArray.empty (rd_L5 x0 x4) x5) false)) else (none)) else (none)) else (none)) else (none)
def gleberef7_PrintRecords.j3 : Nat → List (List ByteArray) → List Int → Int → Int → ByteArray → Bool → Option (List Int)
 | 0, _, _, _, _, _, _ => none
 | k + 1, x0, x3, x4, x5, x6, x7 => gleberef7_PrintRecords.l2 k x0 x3 x4 x5 x6 x7 0
def gleberef7_PrintRecords.l2 : Nat → List (List ByteArray) → List Int → Int → Int → ByteArray → Bool → Int → Option (List Int)
 | 0, _, _, _, _, _, _, _ => none
 | k + 1, x0, x3, x4, x5, x6, x7, x8 => if x8 < (x6.size : Int) then (if x7 = true then (gleberef7_PrintRecords.l2 k x0 x3 x4 x5 x6 true (wrap64 (x8 + 1))) else (if 0 ≤ x8 then (if (bt x6 x8) = 34 then (gleberef7_PrintRecords.l2 k x0 x3 x4 x5 x6 true (wrap64 (x8 + 1))) else (if (bt x6 x8) = 44 then (gleberef7_PrintRecords.l2 k x0 x3 x4 x5 x6 true (wrap64 (x8 + 1))) else (if (bt x6 x8) = 10 then (gleberef7_PrintRecords.l2 k x0 x3 x4 x5 x6 true (wrap64 (x8 + 1))) else (gleberef7_PrintRecords.l2 k x0 x3 x4 x5 x6 ((bt x6 x8) == 13) (wrap64 (x8 + 1)))))) else (none))) else (if x7 = true then (if x3.length < 140737488355328 then (gleberef7_PrintRecords.l3 k x0 (x3 ++ [34]) x4 x5 x6 0) else (none)) else (if x3.length + x6.size < 140737488355328 then (gleberef7_PrintRecords.l1 k x0 (x3 ++ bytesOf x6) x4 (wrap64 (x5 + 1))) else (none)))
def gleberef7_PrintRecords.l3 : Nat → List (List ByteArray) → List Int → Int → Int → ByteArray → Int → Option (List Int)
 | 0, _, _, _, _, _, _ => none
 | k + 1, x0, x3, x4, x5, x6, x9 => if x9 < (x6.size : Int) then (if 0 ≤ x9 then (if (bt x6 x9) = 34 then (if x3.length < 140737488355328 then ((some (x3 ++ [34] : List Int)).bind fun y413 => (if y413.length < 140737488355328 then (gleberef7_PrintRecords.l3 k x0 (y413 ++ [bt x6 x9]) x4 x5 x6 (wrap64 (x9 + 1))) else (none))) else (none)) else (if x3.length < 140737488355328 then (gleberef7_PrintRecords.l3 k x0 (x3 ++ [bt x6 x9]) x4 x5 x6 (wrap64 (x9 + 1))) else (none))) else (none)) else (if x3.length < 140737488355328 then (gleberef7_PrintRecords.l1 k x0 (x3 ++ [34]) x4 (wrap64 (x5 + 1))) else (none))
end
def gleberef7_PrintRecords.f (k : Nat) (l0 : List (List ByteArray)) : Option (List Int) := gleberef7_PrintRecords.l0 k l0 ([] : List Int) 0
theorem gleberef7_PrintRecords.mono_l : ∀ k, (∀ y0 y1 y2, LeO (gleberef7_PrintRecords.l0 k y0 y1 y2) (gleberef7_PrintRecords.l0 (k + 1) y0 y1 y2)) ∧ (∀ y0 y1 y2 y3, LeO (gleberef7_PrintRecords.l1 k y0 y1 y2 y3) (gleberef7_PrintRecords.l1 (k + 1) y0 y1 y2 y3)) ∧ (∀ y0 y1 y2 y3, LeO (gleberef7_PrintRecords.j2 k y0 y1 y2 y3) (gleberef7_PrintRecords.j2 (k + 1) y0 y1 y2 y3)) ∧ (∀ y0 y1 y2 y3 y4 y5, LeO (gleberef7_PrintRecords.j3 k y0 y1 y2 y3 y4 y5) (gleberef7_PrintRecords.j3 (k + 1) y0 y1 y2 y3 y4 y5)) ∧ (∀ y0 y1 y2 y3 y4 y5 y6, LeO (gleberef7_PrintRecords.l2 k y0 y1 y2 y3 y4 y5 y6) (gleberef7_PrintRecords.l2 (k + 1) y0 y1 y2 y3 y4 y5 y6)) ∧ (∀ y0 y1 y2 y3 y4 y5, LeO (gleberef7_PrintRecords.l3 k y0 y1 y2 y3 y4 y5) (gleberef7_PrintRecords.l3 (k + 1) y0 y1 y2 y3 y4 y5))
 | 0 => ⟨fun _ _ _ r h => by simp [gleberef7_PrintRecords.l0] at h, fun _ _ _ _ r h => by simp [gleberef7_PrintRecords.l1] at h, fun _ _ _ _ r h => by simp [gleberef7_PrintRecords.j2] at h, fun _ _ _ _ _ _ r h => by simp [gleberef7_PrintRecords.j3] at h, fun _ _ _ _ _ _ _ r h => by simp [gleberef7_PrintRecords.l2] at h, fun _ _ _ _ _ _ r h => by simp [gleberef7_PrintRecords.l3] at h⟩
 | k + 1 => by
  obtain ⟨ih0, ih1, ih2, ih3, ih4, ih5⟩ := gleberef7_PrintRecords.mono_l k
  refine ⟨?_, ?_, ?_, ?_, ?_, ?_⟩
  ·intro y0 y1 y2
   unfold gleberef7_PrintRecords.l0
   repeat' first
   | (with_reducible first | exact ih0 _ _ _ | exact ih1 _ _ _ _ | exact ih2 _ _ _ _ | exact ih3 _ _ _ _ _ _ | exact ih4 _ _ _ _ _ _ _ | exact ih5 _ _ _ _ _ _ | exact LeO.refl _ | exact LeO.none _ | refine LeO.ite ?_ ?_ | refine LeO.bind ?_ (fun _ => ?_))
   | exact ih0 _ _ _
   | exact ih1 _ _ _ _
   | exact ih2 _ _ _ _
   | exact ih3 _ _ _ _ _ _
   | exact ih4 _ _ _ _ _ _ _
   | exact ih5 _ _ _ _ _ _
   | exact LeO.none _
   | refine LeO.ite ?_ ?_
   | refine LeO.bind ?_ (fun _ => ?_)
  ·intro y0 y1 y2 y3
   unfold gleberef7_PrintRecords.l1
   repeat' first
   | (with_reducible first | exact ih0 _ _ _ | exact ih1 _ _ _ _ | exact ih2 _ _ _ _ | exact ih3 _ _ _ _ _ _ | exact ih4 _ _ _ _ _ _ _ | exact ih5 _ _ _ _ _ _ | exact LeO.refl _ | exact LeO.none _ | refine LeO.ite ?_ ?_ | refine LeO.bind ?_ (fun _ => ?_))
   | exact ih0 _ _ _
   | exact ih1 _ _ _ _
   | exact ih2 _ _ _ _
   | exact ih3 _ _ _ _ _ _
   | exact ih4 _ _ _ _ _ _ _
   | exact ih5 _ _ _ _ _ _
   | exact LeO.none _
   | refine LeO.ite ?_ ?_
   | refine LeO.bind ?_ (fun _ => ?_)
  ·intro y0 y1 y2 y3
   unfold gleberef7_PrintRecords.j2
   repeat' first
   | (with_reducible first | exact ih0 _ _ _ | exact ih1 _ _ _ _ | exact ih2 _ _ _ _ | exact ih3 _ _ _ _ _ _ | exact ih4 _ _ _ _ _ _ _ | exact ih5 _ _ _ _ _ _ | exact LeO.refl _ | exact LeO.none _ | refine LeO.ite ?_ ?_ | refine LeO.bind ?_ (fun _ => ?_))
   | exact ih0 _ _ _
   | exact ih1 _ _ _ _
   | exact ih2 _ _ _ _
   | exact ih3 _ _ _ _ _ _
   | exact ih4 _ _ _ _ _ _ _
   | exact ih5 _ _ _ _ _ _
   | exact LeO.none _
   | refine LeO.ite ?_ ?_
   | refine LeO.bind ?_ (fun _ => ?_)
  ·intro y0 y1 y2 y3 y4 y5
   unfold gleberef7_PrintRecords.j3
   repeat' first
   | (with_reducible first | exact ih0 _ _ _ | exact ih1 _ _ _ _ | exact ih2 _ _ _ _ | exact ih3 _ _ _ _ _ _ | exact ih4 _ _ _ _ _ _ _ | exact ih5 _ _ _ _ _ _ | exact LeO.refl _ | exact LeO.none _ | refine LeO.ite ?_ ?_ | refine LeO.bind ?_ (fun _ => ?_))
   | exact ih0 _ _ _
   | exact ih1 _ _ _ _
   | exact ih2 _ _ _ _
   | exact ih3 _ _ _ _ _ _
   | exact ih4 _ _ _ _ _ _ _
   | exact ih5 _ _ _ _ _ _
   | exact LeO.none _
   | refine LeO.ite ?_ ?_
   | refine LeO.bind ?_ (fun _ => ?_)
  ·intro y0 y1 y2 y3 y4 y5 y6
   unfold gleberef7_PrintRecords.l2
   repeat' first
   | (with_reducible first | exact ih0 _ _ _ | exact ih1 _ _ _ _ | exact ih2 _ _ _ _ | exact ih3 _ _ _ _ _ _ | exact ih4 _ _ _ _ _ _ _ | exact ih5 _ _ _ _ _ _ | exact LeO.refl _ | exact LeO.none _ | refine LeO.ite ?_ ?_ | refine LeO.bind ?_ (fun _ => ?_))
   | exact ih0 _ _ _
   | exact ih1 _ _ _ _
   | exact ih2 _ _ _ _
   | exact ih3 _ _ _ _ _ _
   | exact ih4 _ _ _ _ _ _ _
   | exact ih5 _ _ _ _ _ _
   | exact LeO.none _
   | refine LeO.ite ?_ ?_
   | refine LeO.bind ?_ (fun _ => ?_)
  ·intro y0 y1 y2 y3 y4 y5
   unfold gleberef7_PrintRecords.l3
   repeat' first
   | (with_reducible first | exact ih0 _ _ _ | exact ih1 _ _ _ _ | exact ih2 _ _ _ _ | exact ih3 _ _ _ _ _ _ | exact ih4 _ _ _ _ _ _ _ | exact ih5 _ _ _ _ _ _ | exact LeO.refl _ | exact LeO.none _ | refine LeO.ite ?_ ?_ | refine LeO.bind ?_ (fun _ => ?_))
   | exact ih0 _ _ _
   | exact ih1 _ _ _ _
   | exact ih2 _ _ _ _
   | exact ih3 _ _ _ _ _ _
   | exact ih4 _ _ _ _ _ _ _
   | exact ih5 _ _ _ _ _ _
   | exact LeO.none _
   | refine LeO.ite ?_ ?_
   | refine LeO.bind ?_ (fun _ => ?_)
theorem gleberef7_PrintRecords.mono : ∀ a0 k, LeO (gleberef7_PrintRecords.f k a0) (gleberef7_PrintRecords.f (k + 1) a0) := by
 intro a0 k
 obtain ⟨ih0, ih1, ih2, ih3, ih4, ih5⟩ := gleberef7_PrintRecords.mono_l k
 unfold gleberef7_PrintRecords.f
 repeat' first
   | (with_reducible first | exact ih0 _ _ _ | exact ih1 _ _ _ _ | exact ih2 _ _ _ _ | exact ih3 _ _ _ _ _ _ | exact ih4 _ _ _ _ _ _ _ | exact ih5 _ _ _ _ _ _ | exact LeO.refl _ | exact LeO.none _ | refine LeO.ite ?_ ?_ | refine LeO.bind ?_ (fun _ => ?_))
   | exact ih0 _ _ _
   | exact ih1 _ _ _ _
   | exact ih2 _ _ _ _
   | exact ih3 _ _ _ _ _ _
   | exact ih4 _ _ _ _ _ _ _
   | exact ih5 _ _ _ _ _ _
   | exact LeO.none _
   | refine LeO.ite ?_ ?_
   | refine LeO.bind ?_ (fun _ => ?_)
set_option maxHeartbeats 8000000 in
set_option maxRecDepth 100000 in
theorem gleberef7_PrintRecords.calls (k : Nat) (A0 : Option Addr) (c0 : Nat) (l0 : List (List ByteArray)) (r : List Int) (w : World) (hr0 : Kd.C (Kd.slice 9 Kd.string) w A0 l0.length l0) (hc0 : l0.length ≤ c0) (h : gleberef7_PrintRecords.f k l0 = some r) :
  Calls Tryd.prog 39 #[.slice A0 l0.length c0] w fun e w' => ∃ v0_ : Value, e = .returned (v0_) ∧ Kd.R (Kd.int .u8) 5 w' w.heap.size (fun _ => True) v0_ r ∧ Below w.heap.size w w' := by
 have HR0 := Aside0.mk hr0
 have HC0 := Aside0.mk hc0
 clear hr0 hc0
 have HB := Aside0.mk (Below.refl w.heap.size w)
 have H : (gleberef7_PrintRecords.l0 k l0 ([] : List Int) 0) = some r := h
 clear h
 have H' := Aside0.mk H
 clear H
 go_enter Tryd.func39, Tryd.ntmps39
 go_wp2
 go_loopg [3, 4] k (fun kq v3 v4 w' => ∃ (x3_1 : List Int) (x4_1 : Int), v4 = .int .i64 x4_1 ∧ Aside0 (gleberef7_PrintRecords.l0 kq l0 x3_1 x4_1 = some r) ∧ Aside0 (kq ≤ k) ∧ Aside0 (Kd.R (Kd.int .u8) 5 w' w.heap.size (fun _ => True) v3 x3_1) ∧ Aside0 (Below w.heap.size w w'))
 case atStart => exact ⟨(([] : List Int)), (0), oR, H', ⟨Nat.le_refl _⟩, ⟨by first | exact Kd.R_nil _ _ _ _ _ | exact Kd.N_nil _ _ _ _ _ | exact Kd.V_nil _ _ _ _ _ | exact Kd.Q_nil _ _ _ _ _ | exact Kd.S_nil _ _ _ _ _⟩, ⟨fW HB.out⟩⟩
 case round =>
  clear H'
  obtain ⟨x3_1, x4_1, rfl, HA, HK1, HO_3, HB⟩ := hrel
  cases gk with
  | zero => exact absurd HA.out (by simp [gleberef7_PrintRecords.l0])
  | succ k1 =>
   have H := HA.out
   clear HA
   simp only [gleberef7_PrintRecords.l0] at H
   by_cases c2 : x4_1 < (l0.length : Int)
   ·rw [if_pos c2] at H
    have c2b0 := decide_eq_true c2
    clear c2
    have H' := Aside0.mk H
    clear H
    go_wp2
    go_loopg [3, 5] k1 (fun kq v3 v5 w' => ∃ (x3_2 : List Int) (x5_2 : Int), v5 = .int .i64 x5_2 ∧ Aside0 (gleberef7_PrintRecords.l1 kq l0 x3_2 x4_1 x5_2 = some r) ∧ Aside0 (kq ≤ k1) ∧ Aside0 (Kd.R (Kd.int .u8) 5 w' w.heap.size (fun _ => True) v3 x3_2) ∧ Aside0 (Below w.heap.size w w'))
    case atStart => exact ⟨(x3_1), (0), oR, H', ⟨Nat.le_refl _⟩, ⟨fR HO_3.out⟩, ⟨fW HB.out⟩⟩
    case round =>
     clear H'
     try clear c2; try clear c2b0
     obtain ⟨x3_2, x5_2, rfl, HA, HK2, HO_3, HB⟩ := hrel
     cases gk with
     | zero => exact absurd HA.out (by simp [gleberef7_PrintRecords.l1])
     | succ k2 =>
      have H := HA.out
      clear HA
      simp only [gleberef7_PrintRecords.l1] at H
      obtain ⟨c3, H⟩ := eT H
      have c3b0 := decide_eq_true c3
      clear c3
      obtain ⟨c4, H⟩ := eT H
      have c4b0 := decide_eq_true c4
      clear c4
      by_cases c5 : x5_2 < ((rd_L5 l0 x4_1).length : Int)
      ·rw [if_pos c5] at H
       have c5b0 := decide_eq_true c5
       clear c5
       have HC6 := Aside0.mk H
       clear H
       have p397 : 0 ≤ (x4_1 : Int) := oD
       have q397 : x4_1 < (l0.length : Int) := oD
       obtain ⟨ad397, A397_0, c397_0, e397, hx397_0, hl397_0, hi397_0⟩ := at_L5 HR0.out x4_1 p397 q397
       cases e397
       replace hx397_0 := (HB.out.cell (World.block_lt_of_cell? w _ hx397_0)).trans hx397_0
       have HR397_0 := Aside0.mk hi397_0
       have HC397_0 := Aside0.mk hl397_0
       clear hi397_0 hl397_0
       replace p397 := eq_true p397
       replace q397 := eq_true q397
       go_upto_if 26 with (fail)
       go_cut [3] (fun v3 wc => ∃ (kq : Nat) (x3_5 : List Int), Aside0 (gleberef7_PrintRecords.j2 kq l0 x3_5 x4_1 x5_2 = some r) ∧ Aside0 (kq ≤ k2) ∧ Aside0 (Kd.R (Kd.int .u8) 5 wc w.heap.size (fun _ => True) v3 x3_5) ∧ Aside0 (Below w.heap.size w wc))
       case first =>
        have H := HC6.out
        clear HC6
        by_cases c7 : x5_2 > 0
        ·rw [if_pos c7] at H
         have c7b0 := decide_eq_true c7
         clear c7
         (first | rw [c7b0] | (simp only [i64_w, i32_w]; rw [c7b0]) | skip)
         obtain ⟨c8, H⟩ := eT H
         have LMc8 := Aside0.mk c8
         clear c8
         obtain ⟨y401, hy401⟩ : ∃ y_ : List Int, y_ = (x3_2 ++ [44]) := ⟨_, rfl⟩
         replace H : (gleberef7_PrintRecords.j2 k2 l0 y401 x4_1 x5_2) = some r := by first | (rw [hy401]; with_reducible exact H) | (have H2_ := (Option.bind_some _ _).symm.trans H; rw [hy401]; with_reducible exact H2_) | (have H2_ := (Option.bind_some _ _).symm.trans H; with_reducible exact H2_) | with_reducible exact H | (rw [hy401]; exact H) | exact H
         have Ny401 := Aside0.mk hy401
         clear hy401
         have H' := Aside0.mk H
         clear H
         go_wp2_with (first | ((with_reducible refine gate_builtin (b := .append) (xs := #[.tmp 27, .tmp 28]) rfl ?_); (try (refine gate_guard (by rfl) ?_; dsimp only)); at_builtin; refine Kd.R_append (Kd.int .u8) (w0 := w) w.heap.size rfl (.tmp 27) (.tmp 28) 35 5 (.int .u8 0) 1 rfl Tryd.underlying35 info5 rfl (by decide) (by omega) u3 x3_2 44 [.int .u8 44] (fun _ => True) (fun _ => False) rfl rfl ?aP (fun _ hk => hk.elim) ?aF ?aO ?aB ?aS ?aL ?_; (case aP => exact rfl); (case aB => exact (fW HB.out)); (case aF => exact (fun _ _ => trivial)); (case aO => exact (fR HO_3.out)); (case aS => exact (below_size (fW HB.out))); (case aL => have := LMc8.out; omega); intro v402 w9 ho hb hg hat; rw [← Ny401.out] at ho; replace HB := Aside0.mk (hb); have HO403 := Aside0.mk (ho); clear HO_3; clear ho hb hg hat))
         go_meet
         case rel => exact ⟨_, (y401), H', ⟨by have := HK1.out; have := HK2.out; first | omega | exact Nat.le_refl _⟩, ⟨fR HO403.out⟩, ⟨fW HB.out⟩⟩
        ·rw [if_neg c7] at H
         have c7b0 := decide_eq_false c7
         clear c7
         (first | rw [c7b0] | (simp only [i64_w, i32_w]; rw [c7b0]) | skip)
         have H' := Aside0.mk H
         clear H
         go_wp2
         go_meet
         case rel => exact ⟨_, (x3_2), H', ⟨by have := HK1.out; have := HK2.out; first | omega | exact Nat.le_refl _⟩, ⟨fR HO_3.out⟩, ⟨fW HB.out⟩⟩
       case rest =>
        clear HC6
        try clear c2; try clear c2b0; try clear c3; try clear c3b0; try clear c4; try clear c4b0; try clear c5; try clear c5b0; try clear c7; try clear c7b0; try clear c8; try clear hx397_0; try clear p397; try clear q397
        obtain ⟨kq, x3_5, HA, HJ5, HO_3, HB⟩ := hcut
        cases kq with
        | zero => exact absurd HA.out (by simp [gleberef7_PrintRecords.j2])
        | succ kj5 =>
         have H := HA.out
         clear HA
         simp only [gleberef7_PrintRecords.j2] at H
         obtain ⟨c10, H⟩ := eT H
         have c10b0 := decide_eq_true c10
         clear c10
         obtain ⟨c11, H⟩ := eT H
         have c11b0 := decide_eq_true c11
         clear c11
         obtain ⟨c12, H⟩ := eT H
         have c12b0 := decide_eq_true c12
         clear c12
         obtain ⟨c13, H⟩ := eT H
         have c13b0 := decide_eq_true c13
         clear c13
         have HC14 := Aside0.mk H
         clear H
         have p404 : 0 ≤ (x4_1 : Int) := oD
         have q404 : x4_1 < (l0.length : Int) := oD
         obtain ⟨ad404, A404_0, c404_0, e404, hx404_0, hl404_0, hi404_0⟩ := at_L5 HR0.out x4_1 p404 q404
         obtain rfl : ad397 = ad404 := (by injection e404)
         replace hx404_0 := (HB.out.cell (World.block_lt_of_cell? w _ hx404_0)).trans hx404_0
         have HR404_0 := Aside0.mk hi404_0
         have HC404_0 := Aside0.mk hl404_0
         clear hi404_0 hl404_0
         replace p404 := eq_true p404
         replace q404 := eq_true q404
         have p405 : 0 ≤ (x5_2 : Int) := oD
         have q405 : x5_2 < ((rd_L5 l0 x4_1).length : Int) := oD
         obtain ⟨ad405, e405, hx405_0⟩ := Kd.at_string HR404_0.out x5_2 p405 q405
         cases e405
         replace hx405_0 := (HB.out.cell (World.block_lt_of_cell? w _ hx405_0)).trans hx405_0
         replace p405 := eq_true p405
         replace q405 := eq_true q405
         go_upto_region 11 with (fail)
         go_cut [7] (fun v7 wc => ∃ (kq : Nat) (x7_13 : Bool), v7 = .bool x7_13 ∧ Aside0 (gleberef7_PrintRecords.j3 kq l0 x3_5 x4_1 x5_2 (rdOf ByteArray.empty (rd_L5 l0 x4_1) x5_2) x7_13 = some r) ∧ Aside0 (kq ≤ kj5) ∧ Aside0 (Kd.R (Kd.int .u8) 5 wc w.heap.size (fun _ => True) u3 x3_5) ∧ Aside0 (Below w.heap.size w wc))
         case first =>
          have H := HC14.out
          clear HC14
          by_cases c15 : (rdOf ByteArray.empty (rd_L5 l0 x4_1) x5_2).toList = ([] : List UInt8)
          ·rw [if_pos c15] at H
           have c15b0 := qL c15
           have c15b1 := nL c15
           clear c15
           (first | rw [c15b0] | (simp only [i64_w, i32_w]; rw [c15b0]) | skip)
           have H' := Aside0.mk H
           clear H
           have p406 : 0 ≤ (x4_1 : Int) := oD
           have q406 : x4_1 < (l0.length : Int) := oD
           obtain ⟨ad406, A406_0, c406_0, e406, hx406_0, hl406_0, hi406_0⟩ := at_L5 HR0.out x4_1 p406 q406
           obtain rfl : ad397 = ad406 := (by injection e406)
           replace hx406_0 := (HB.out.cell (World.block_lt_of_cell? w _ hx406_0)).trans hx406_0
           have HR406_0 := Aside0.mk hi406_0
           have HC406_0 := Aside0.mk hl406_0
           clear hi406_0 hl406_0
           replace p406 := eq_true p406
           replace q406 := eq_true q406
           go_wp2
           go_meet
           case rel => exact ⟨_, ((((rd_L5 l0 x4_1).length : Int) == 1)), oR, H', ⟨by have := HK1.out; have := HK2.out; have := HJ5.out; first | omega | exact Nat.le_refl _⟩, ⟨fR HO_3.out⟩, ⟨fW HB.out⟩⟩
          ·rw [if_neg c15] at H
           have c15b0 : ((rdOf ByteArray.empty (rd_L5 l0 x4_1) x5_2).toList == ([] : List UInt8)) = false := beq_eq_false_iff_ne.mpr c15
           have c15b1 : ((rdOf ByteArray.empty (rd_L5 l0 x4_1) x5_2).toList != ([] : List UInt8)) = true := bne_iff_ne.mpr c15
           (first | rw [c15b0] | (simp only [i64_w, i32_w]; rw [c15b0]) | skip)
           have H' := Aside0.mk H
           clear H
           go_wp2
           go_meet
           case rel => exact ⟨_, (false), oR, H', ⟨by have := HK1.out; have := HK2.out; have := HJ5.out; first | omega | exact Nat.le_refl _⟩, ⟨fR HO_3.out⟩, ⟨fW HB.out⟩⟩
         case rest =>
          clear HC14
          try clear c2; try clear c2b0; try clear c3; try clear c3b0; try clear c4; try clear c4b0; try clear c5; try clear c5b0; try clear c7; try clear c7b0; try clear c8; try clear c10; try clear c10b0; try clear c11; try clear c11b0; try clear c12; try clear c12b0; try clear c13; try clear c13b0; try clear c15; try clear c15b0; try clear c15b1; try clear hx397_0; try clear hx404_0; try clear hx405_0; try clear hx406_0; try clear p397; try clear p404; try clear p405; try clear p406; try clear q397; try clear q404; try clear q405; try clear q406
          obtain ⟨kq, x7_13, rfl, HA, HJ13, HO_3, HB⟩ := hcut
          cases kq with
          | zero => exact absurd HA.out (by simp [gleberef7_PrintRecords.j3])
          | succ kj13 =>
           have H := HA.out
           clear HA
           simp only [gleberef7_PrintRecords.j3] at H
           have H' := Aside0.mk H
           clear H
           go_wp2
           go_loopg [7, 8] kj13 (fun kq v7 v8 w' => ∃ (x7_5 : Bool) (x8_5 : Int), v7 = .bool x7_5 ∧ v8 = .int .i64 x8_5 ∧ Aside0 (gleberef7_PrintRecords.l2 kq l0 x3_5 x4_1 x5_2 (rdOf ByteArray.empty (rd_L5 l0 x4_1) x5_2) x7_5 x8_5 = some r) ∧ Aside0 (kq ≤ kj13) ∧ Aside0 (Kd.R (Kd.int .u8) 5 w' w.heap.size (fun _ => True) u3 x3_5) ∧ Aside0 (Below w.heap.size w w'))
           case atStart => exact ⟨(x7_13), (0), oR, oR, H', ⟨Nat.le_refl _⟩, ⟨fR HO_3.out⟩, ⟨fW HB.out⟩⟩
           case round =>
            clear H'
            try clear c2; try clear c2b0; try clear c3; try clear c3b0; try clear c4; try clear c4b0; try clear c5; try clear c5b0; try clear c7; try clear c7b0; try clear c8; try clear c10; try clear c10b0; try clear c11; try clear c11b0; try clear c12; try clear c12b0; try clear c13; try clear c13b0; try clear c15; try clear c15b0; try clear c15b1; try clear hx397_0; try clear hx404_0; try clear hx405_0; try clear hx406_0; try clear p397; try clear p404; try clear p405; try clear p406; try clear q397; try clear q404; try clear q405; try clear q406
            obtain ⟨x7_5, x8_5, rfl, rfl, HA, HK5, HO_3, HB⟩ := hrel
            cases gk with
            | zero => exact absurd HA.out (by simp [gleberef7_PrintRecords.l2])
            | succ k5 =>
             have H := HA.out
             clear HA
             simp only [gleberef7_PrintRecords.l2] at H
             by_cases c16 : x8_5 < ((rdOf ByteArray.empty (rd_L5 l0 x4_1) x5_2).size : Int)
             ·rw [if_pos c16] at H
              have c16b0 := decide_eq_true c16
              clear c16
              by_cases c17 : x7_5 = true
              ·subst c17
               replace H := iT H
               have H' := Aside0.mk H
               clear H
               go_wp2
               go_roundg k5
               case measure => have := HK1.out; have := HK2.out; have := HJ5.out; have := HJ13.out; have := HK5.out; omega
               case rel => exact ⟨(true), (wrap64 (x8_5 + 1)), oR, oR, H', ⟨by have := HK1.out; have := HK2.out; have := HJ5.out; have := HJ13.out; have := HK5.out; omega⟩, ⟨fR HO_3.out⟩, ⟨fW HB.out⟩⟩
              ·replace c17 := Bool.eq_false_iff.mpr c17
               subst c17
               replace H := iF H
               obtain ⟨c18, H⟩ := eT H
               have c18b0 := decide_eq_true c18
               clear c18
               by_cases c20 : (bt (rdOf ByteArray.empty (rd_L5 l0 x4_1) x5_2) x8_5) = 34
               ·rw [if_pos c20] at H
                have c20b0 := qT c20
                have c20b1 := nF c20
                clear c20
                have H' := Aside0.mk H
                clear H
                have p19 : 0 ≤ (x8_5 : Int) := oD
                have q19 : x8_5 < ((rdOf ByteArray.empty (rd_L5 l0 x4_1) x5_2).size : Int) := oD
                have hx19 := bt_at (rdOf ByteArray.empty (rd_L5 l0 x4_1) x5_2) x8_5
                replace p19 := eq_true p19
                replace q19 := eq_true q19
                go_wp2
                go_roundg k5
                case measure => have := HK1.out; have := HK2.out; have := HJ5.out; have := HJ13.out; have := HK5.out; omega
                case rel => exact ⟨(true), (wrap64 (x8_5 + 1)), oR, oR, H', ⟨by have := HK1.out; have := HK2.out; have := HJ5.out; have := HJ13.out; have := HK5.out; omega⟩, ⟨fR HO_3.out⟩, ⟨fW HB.out⟩⟩
               ·rw [if_neg c20] at H
                have c20b0 : ((bt (rdOf ByteArray.empty (rd_L5 l0 x4_1) x5_2) x8_5) == 34) = false := beq_eq_false_iff_ne.mpr c20
                have c20b1 : ((bt (rdOf ByteArray.empty (rd_L5 l0 x4_1) x5_2) x8_5) != 34) = true := bne_iff_ne.mpr c20
                by_cases c22 : (bt (rdOf ByteArray.empty (rd_L5 l0 x4_1) x5_2) x8_5) = 44
                ·rw [if_pos c22] at H
                 have c22b0 := qT c22
                 have c22b1 := nF c22
                 clear c22
                 have H' := Aside0.mk H
                 clear H
                 have p19 : 0 ≤ (x8_5 : Int) := oD
                 have q19 : x8_5 < ((rdOf ByteArray.empty (rd_L5 l0 x4_1) x5_2).size : Int) := oD
                 have hx19 := bt_at (rdOf ByteArray.empty (rd_L5 l0 x4_1) x5_2) x8_5
                 replace p19 := eq_true p19
                 replace q19 := eq_true q19
                 have p21 : 0 ≤ (x8_5 : Int) := oD
                 have q21 : x8_5 < ((rdOf ByteArray.empty (rd_L5 l0 x4_1) x5_2).size : Int) := oD
                 have hx21 := bt_at (rdOf ByteArray.empty (rd_L5 l0 x4_1) x5_2) x8_5
                 replace p21 := eq_true p21
                 replace q21 := eq_true q21
                 go_wp2
                 go_roundg k5
                 case measure => have := HK1.out; have := HK2.out; have := HJ5.out; have := HJ13.out; have := HK5.out; omega
                 case rel => exact ⟨(true), (wrap64 (x8_5 + 1)), oR, oR, H', ⟨by have := HK1.out; have := HK2.out; have := HJ5.out; have := HJ13.out; have := HK5.out; omega⟩, ⟨fR HO_3.out⟩, ⟨fW HB.out⟩⟩
                ·rw [if_neg c22] at H
                 have c22b0 : ((bt (rdOf ByteArray.empty (rd_L5 l0 x4_1) x5_2) x8_5) == 44) = false := beq_eq_false_iff_ne.mpr c22
                 have c22b1 : ((bt (rdOf ByteArray.empty (rd_L5 l0 x4_1) x5_2) x8_5) != 44) = true := bne_iff_ne.mpr c22
                 by_cases c24 : (bt (rdOf ByteArray.empty (rd_L5 l0 x4_1) x5_2) x8_5) = 10
                 ·rw [if_pos c24] at H
                  have c24b0 := qT c24
                  have c24b1 := nF c24
                  clear c24
                  have H' := Aside0.mk H
                  clear H
                  have p19 : 0 ≤ (x8_5 : Int) := oD
                  have q19 : x8_5 < ((rdOf ByteArray.empty (rd_L5 l0 x4_1) x5_2).size : Int) := oD
                  have hx19 := bt_at (rdOf ByteArray.empty (rd_L5 l0 x4_1) x5_2) x8_5
                  replace p19 := eq_true p19
                  replace q19 := eq_true q19
                  have p21 : 0 ≤ (x8_5 : Int) := oD
                  have q21 : x8_5 < ((rdOf ByteArray.empty (rd_L5 l0 x4_1) x5_2).size : Int) := oD
                  have hx21 := bt_at (rdOf ByteArray.empty (rd_L5 l0 x4_1) x5_2) x8_5
                  replace p21 := eq_true p21
                  replace q21 := eq_true q21
                  have p23 : 0 ≤ (x8_5 : Int) := oD
                  have q23 : x8_5 < ((rdOf ByteArray.empty (rd_L5 l0 x4_1) x5_2).size : Int) := oD
                  have hx23 := bt_at (rdOf ByteArray.empty (rd_L5 l0 x4_1) x5_2) x8_5
                  replace p23 := eq_true p23
                  replace q23 := eq_true q23
                  go_wp2
                  go_roundg k5
                  case measure => have := HK1.out; have := HK2.out; have := HJ5.out; have := HJ13.out; have := HK5.out; omega
                  case rel => exact ⟨(true), (wrap64 (x8_5 + 1)), oR, oR, H', ⟨by have := HK1.out; have := HK2.out; have := HJ5.out; have := HJ13.out; have := HK5.out; omega⟩, ⟨fR HO_3.out⟩, ⟨fW HB.out⟩⟩
                 ·rw [if_neg c24] at H
                  have c24b0 : ((bt (rdOf ByteArray.empty (rd_L5 l0 x4_1) x5_2) x8_5) == 10) = false := beq_eq_false_iff_ne.mpr c24
                  have c24b1 : ((bt (rdOf ByteArray.empty (rd_L5 l0 x4_1) x5_2) x8_5) != 10) = true := bne_iff_ne.mpr c24
                  have H' := Aside0.mk H
                  clear H
                  have p19 : 0 ≤ (x8_5 : Int) := oD
                  have q19 : x8_5 < ((rdOf ByteArray.empty (rd_L5 l0 x4_1) x5_2).size : Int) := oD
                  have hx19 := bt_at (rdOf ByteArray.empty (rd_L5 l0 x4_1) x5_2) x8_5
                  replace p19 := eq_true p19
                  replace q19 := eq_true q19
                  have p21 : 0 ≤ (x8_5 : Int) := oD
                  have q21 : x8_5 < ((rdOf ByteArray.empty (rd_L5 l0 x4_1) x5_2).size : Int) := oD
                  have hx21 := bt_at (rdOf ByteArray.empty (rd_L5 l0 x4_1) x5_2) x8_5
                  replace p21 := eq_true p21
                  replace q21 := eq_true q21
                  have p23 : 0 ≤ (x8_5 : Int) := oD
                  have q23 : x8_5 < ((rdOf ByteArray.empty (rd_L5 l0 x4_1) x5_2).size : Int) := oD
                  have hx23 := bt_at (rdOf ByteArray.empty (rd_L5 l0 x4_1) x5_2) x8_5
                  replace p23 := eq_true p23
                  replace q23 := eq_true q23
                  have p25 : 0 ≤ (x8_5 : Int) := oD
                  have q25 : x8_5 < ((rdOf ByteArray.empty (rd_L5 l0 x4_1) x5_2).size : Int) := oD
                  have hx25 := bt_at (rdOf ByteArray.empty (rd_L5 l0 x4_1) x5_2) x8_5
                  replace p25 := eq_true p25
                  replace q25 := eq_true q25
                  go_wp2
                  go_roundg k5
                  case measure => have := HK1.out; have := HK2.out; have := HJ5.out; have := HJ13.out; have := HK5.out; omega
                  case rel => exact ⟨(((bt (rdOf ByteArray.empty (rd_L5 l0 x4_1) x5_2) x8_5) == 13)), (wrap64 (x8_5 + 1)), oR, oR, H', ⟨by have := HK1.out; have := HK2.out; have := HJ5.out; have := HJ13.out; have := HK5.out; omega⟩, ⟨fR HO_3.out⟩, ⟨fW HB.out⟩⟩
             ·rw [if_neg c16] at H
              have c16b0 := decide_eq_false c16
              clear c16
              by_cases c26 : x7_5 = true
              ·subst c26
               replace H := iT H
               obtain ⟨c27, H⟩ := eT H
               have LMc27 := Aside0.mk c27
               clear c27
               obtain ⟨y410, hy410⟩ : ∃ y_ : List Int, y_ = (x3_5 ++ [34]) := ⟨_, rfl⟩
               replace H : (gleberef7_PrintRecords.l3 k5 l0 y410 x4_1 x5_2 (rdOf ByteArray.empty (rd_L5 l0 x4_1) x5_2) 0) = some r := by first | (rw [hy410]; with_reducible exact H) | (have H2_ := (Option.bind_some _ _).symm.trans H; rw [hy410]; with_reducible exact H2_) | (have H2_ := (Option.bind_some _ _).symm.trans H; with_reducible exact H2_) | with_reducible exact H | (rw [hy410]; exact H) | exact H
               have Ny410 := Aside0.mk hy410
               clear hy410
               have H' := Aside0.mk H
               clear H
               go_wp2_with (first | ((with_reducible refine gate_builtin (b := .append) (xs := #[.tmp 83, .tmp 84]) rfl ?_); (try (refine gate_guard (by rfl) ?_; dsimp only)); at_builtin; refine Kd.R_append (Kd.int .u8) (w0 := w) w.heap.size rfl (.tmp 83) (.tmp 84) 35 5 (.int .u8 0) 1 rfl Tryd.underlying35 info5 rfl (by decide) (by omega) u3 x3_5 34 [.int .u8 34] (fun _ => True) (fun _ => False) rfl rfl ?aP (fun _ hk => hk.elim) ?aF ?aO ?aB ?aS ?aL ?_; (case aP => exact rfl); (case aB => exact (fW HB.out)); (case aF => exact (fun _ _ => trivial)); (case aO => exact (fR HO_3.out)); (case aS => exact (below_size (fW HB.out))); (case aL => have := LMc27.out; omega); intro v411 w28 ho hb hg hat; rw [← Ny410.out] at ho; replace HB := Aside0.mk (hb); have HO412 := Aside0.mk (ho); clear HO_3; clear ho hb hg hat))
               go_loopg [3, 9] k5 (fun kq v3 v9 w' => ∃ (x3_6 : List Int) (x9_6 : Int), v9 = .int .i64 x9_6 ∧ Aside0 (gleberef7_PrintRecords.l3 kq l0 x3_6 x4_1 x5_2 (rdOf ByteArray.empty (rd_L5 l0 x4_1) x5_2) x9_6 = some r) ∧ Aside0 (kq ≤ k5) ∧ Aside0 (Kd.R (Kd.int .u8) 5 w' w.heap.size (fun _ => True) v3 x3_6) ∧ Aside0 (Below w.heap.size w w'))
               case atStart => exact ⟨(y410), (0), oR, H', ⟨Nat.le_refl _⟩, ⟨fR HO412.out⟩, ⟨fW HB.out⟩⟩
               case round =>
                clear H'
                try clear c2; try clear c2b0; try clear c3; try clear c3b0; try clear c4; try clear c4b0; try clear c5; try clear c5b0; try clear c7; try clear c7b0; try clear c8; try clear c10; try clear c10b0; try clear c11; try clear c11b0; try clear c12; try clear c12b0; try clear c13; try clear c13b0; try clear c15; try clear c15b0; try clear c15b1; try clear c16; try clear c16b0; try clear c17; try clear c18; try clear c18b0; try clear p19; try clear q19; try clear hx19; try clear c20; try clear c20b0; try clear c20b1; try clear p21; try clear q21; try clear hx21; try clear c22; try clear c22b0; try clear c22b1; try clear p23; try clear q23; try clear hx23; try clear c24; try clear c24b0; try clear c24b1; try clear p25; try clear q25; try clear hx25; try clear c26; try clear c27; try clear hx397_0; try clear hx404_0; try clear hx405_0; try clear hx406_0; try clear p19; try clear p21; try clear p23; try clear p25; try clear p397; try clear p404; try clear p405; try clear p406; try clear q19; try clear q21; try clear q23; try clear q25; try clear q397; try clear q404; try clear q405; try clear q406
                obtain ⟨x3_6, x9_6, rfl, HA, HK6, HO_3, HB⟩ := hrel
                cases gk with
                | zero => exact absurd HA.out (by simp [gleberef7_PrintRecords.l3])
                | succ k6 =>
                 have H := HA.out
                 clear HA
                 simp only [gleberef7_PrintRecords.l3] at H
                 by_cases c29 : x9_6 < ((rdOf ByteArray.empty (rd_L5 l0 x4_1) x5_2).size : Int)
                 ·rw [if_pos c29] at H
                  have c29b0 := decide_eq_true c29
                  clear c29
                  obtain ⟨c30, H⟩ := eT H
                  have c30b0 := decide_eq_true c30
                  clear c30
                  by_cases c32 : (bt (rdOf ByteArray.empty (rd_L5 l0 x4_1) x5_2) x9_6) = 34
                  ·rw [if_pos c32] at H
                   have c32b0 := qT c32
                   have c32b1 := nF c32
                   clear c32
                   obtain ⟨c33, H⟩ := eT H
                   have LMc33 := Aside0.mk c33
                   clear c33
                   obtain ⟨y413, hy413⟩ : ∃ y_ : List Int, y_ = (x3_6 ++ [34]) := ⟨_, rfl⟩
                   replace H : (if y413.length < 140737488355328 then (gleberef7_PrintRecords.l3 k6 l0 (y413 ++ [bt (rdOf ByteArray.empty (rd_L5 l0 x4_1) x5_2) x9_6]) x4_1 x5_2 (rdOf ByteArray.empty (rd_L5 l0 x4_1) x5_2) (wrap64 (x9_6 + 1))) else (none)) = some r := by first | (rw [hy413]; with_reducible exact H) | (have H2_ := (Option.bind_some _ _).symm.trans H; rw [hy413]; with_reducible exact H2_) | (have H2_ := (Option.bind_some _ _).symm.trans H; with_reducible exact H2_) | with_reducible exact H | (rw [hy413]; exact H) | exact H
                   have Ny413 := Aside0.mk hy413
                   clear hy413
                   obtain ⟨c35, H⟩ := eT H
                   have LMc35 := Aside0.mk c35
                   clear c35
                   obtain ⟨y416, hy416⟩ : ∃ y_ : List Int, y_ = (y413 ++ [bt (rdOf ByteArray.empty (rd_L5 l0 x4_1) x5_2) x9_6]) := ⟨_, rfl⟩
                   replace H : (gleberef7_PrintRecords.l3 k6 l0 y416 x4_1 x5_2 (rdOf ByteArray.empty (rd_L5 l0 x4_1) x5_2) (wrap64 (x9_6 + 1))) = some r := by first | (rw [hy416]; with_reducible exact H) | (have H2_ := (Option.bind_some _ _).symm.trans H; rw [hy416]; with_reducible exact H2_) | (have H2_ := (Option.bind_some _ _).symm.trans H; with_reducible exact H2_) | with_reducible exact H | (rw [hy416]; exact H) | exact H
                   have Ny416 := Aside0.mk hy416
                   clear hy416
                   have H' := Aside0.mk H
                   clear H
                   have p31 : 0 ≤ (x9_6 : Int) := oD
                   have q31 : x9_6 < ((rdOf ByteArray.empty (rd_L5 l0 x4_1) x5_2).size : Int) := oD
                   have hx31 := bt_at (rdOf ByteArray.empty (rd_L5 l0 x4_1) x5_2) x9_6
                   replace p31 := eq_true p31
                   replace q31 := eq_true q31
                   go_wp2_with (first | ((with_reducible refine gate_builtin (b := .append) (xs := #[.tmp 96, .tmp 97]) rfl ?_); (try (refine gate_guard (by rfl) ?_; dsimp only)); at_builtin; refine Kd.R_append (Kd.int .u8) (w0 := w) w.heap.size rfl (.tmp 96) (.tmp 97) 35 5 (.int .u8 0) 1 rfl Tryd.underlying35 info5 rfl (by decide) (by omega) u3 x3_6 34 [.int .u8 34] (fun _ => True) (fun _ => False) rfl rfl ?aP (fun _ hk => hk.elim) ?aF ?aO ?aB ?aS ?aL ?_; (case aP => exact rfl); (case aB => exact (fW HB.out)); (case aF => exact (fun _ _ => trivial)); (case aO => exact (fR HO_3.out)); (case aS => exact (below_size (fW HB.out))); (case aL => have := LMc33.out; omega); intro v414 w36 ho hb hg hat; rw [← Ny413.out] at ho; replace HB := Aside0.mk (hb); have HO415 := Aside0.mk (ho); clear HO_3; clear ho hb hg hat; have p34 : 0 ≤ (x9_6 : Int) := oD; have q34 : x9_6 < ((rdOf ByteArray.empty (rd_L5 l0 x4_1) x5_2).size : Int) := oD; have hx34 := bt_at (rdOf ByteArray.empty (rd_L5 l0 x4_1) x5_2) x9_6; replace p34 := eq_true p34; replace q34 := eq_true q34) | ((with_reducible refine gate_builtin (b := .append) (xs := #[.tmp 99, .tmp 103]) rfl ?_); (try (refine gate_guard (by rfl) ?_; dsimp only)); at_builtin; refine Kd.R_append (Kd.int .u8) (w0 := w) w.heap.size rfl (.tmp 99) (.tmp 103) 35 5 (.int .u8 0) 1 rfl Tryd.underlying35 info5 rfl (by decide) (by omega) v414 y413 (bt (rdOf ByteArray.empty (rd_L5 l0 x4_1) x5_2) x9_6) [.int .u8 (bt (rdOf ByteArray.empty (rd_L5 l0 x4_1) x5_2) x9_6)] (fun _ => True) (fun _ => False) rfl rfl ?aP (fun _ hk => hk.elim) ?aF ?aO ?aB ?aS ?aL ?_; (case aP => exact rfl); (case aB => exact (fW HB.out)); (case aF => exact (fun _ _ => trivial)); (case aO => exact (fR HO415.out)); (case aS => exact (below_size (fW HB.out))); (case aL => have := LMc35.out; omega); intro v417 w37 ho hb hg hat; rw [← Ny416.out] at ho; replace HB := Aside0.mk (hb); have HO418 := Aside0.mk (ho); clear HO415; clear ho hb hg hat))
                   go_roundg k6
                   case measure => have := HK1.out; have := HK2.out; have := HJ5.out; have := HJ13.out; have := HK5.out; have := HK6.out; omega
                   case rel => exact ⟨(y416), (wrap64 (x9_6 + 1)), oR, H', ⟨by have := HK1.out; have := HK2.out; have := HJ5.out; have := HJ13.out; have := HK5.out; have := HK6.out; omega⟩, ⟨fR HO418.out⟩, ⟨fW HB.out⟩⟩
                  ·rw [if_neg c32] at H
                   have c32b0 : ((bt (rdOf ByteArray.empty (rd_L5 l0 x4_1) x5_2) x9_6) == 34) = false := beq_eq_false_iff_ne.mpr c32
                   have c32b1 : ((bt (rdOf ByteArray.empty (rd_L5 l0 x4_1) x5_2) x9_6) != 34) = true := bne_iff_ne.mpr c32
                   obtain ⟨c39, H⟩ := eT H
                   have LMc39 := Aside0.mk c39
                   clear c39
                   obtain ⟨y419, hy419⟩ : ∃ y_ : List Int, y_ = (x3_6 ++ [bt (rdOf ByteArray.empty (rd_L5 l0 x4_1) x5_2) x9_6]) := ⟨_, rfl⟩
                   replace H : (gleberef7_PrintRecords.l3 k6 l0 y419 x4_1 x5_2 (rdOf ByteArray.empty (rd_L5 l0 x4_1) x5_2) (wrap64 (x9_6 + 1))) = some r := by first | (rw [hy419]; with_reducible exact H) | (have H2_ := (Option.bind_some _ _).symm.trans H; rw [hy419]; with_reducible exact H2_) | (have H2_ := (Option.bind_some _ _).symm.trans H; with_reducible exact H2_) | with_reducible exact H | (rw [hy419]; exact H) | exact H
                   have Ny419 := Aside0.mk hy419
                   clear hy419
                   have H' := Aside0.mk H
                   clear H
                   have p31 : 0 ≤ (x9_6 : Int) := oD
                   have q31 : x9_6 < ((rdOf ByteArray.empty (rd_L5 l0 x4_1) x5_2).size : Int) := oD
                   have hx31 := bt_at (rdOf ByteArray.empty (rd_L5 l0 x4_1) x5_2) x9_6
                   replace p31 := eq_true p31
                   replace q31 := eq_true q31
                   have p38 : 0 ≤ (x9_6 : Int) := oD
                   have q38 : x9_6 < ((rdOf ByteArray.empty (rd_L5 l0 x4_1) x5_2).size : Int) := oD
                   have hx38 := bt_at (rdOf ByteArray.empty (rd_L5 l0 x4_1) x5_2) x9_6
                   replace p38 := eq_true p38
                   replace q38 := eq_true q38
                   go_wp2_with (first | ((with_reducible refine gate_builtin (b := .append) (xs := #[.tmp 99, .tmp 103]) rfl ?_); (try (refine gate_guard (by rfl) ?_; dsimp only)); at_builtin; refine Kd.R_append (Kd.int .u8) (w0 := w) w.heap.size rfl (.tmp 99) (.tmp 103) 35 5 (.int .u8 0) 1 rfl Tryd.underlying35 info5 rfl (by decide) (by omega) u3 x3_6 (bt (rdOf ByteArray.empty (rd_L5 l0 x4_1) x5_2) x9_6) [.int .u8 (bt (rdOf ByteArray.empty (rd_L5 l0 x4_1) x5_2) x9_6)] (fun _ => True) (fun _ => False) rfl rfl ?aP (fun _ hk => hk.elim) ?aF ?aO ?aB ?aS ?aL ?_; (case aP => exact rfl); (case aB => exact (fW HB.out)); (case aF => exact (fun _ _ => trivial)); (case aO => exact (fR HO_3.out)); (case aS => exact (below_size (fW HB.out))); (case aL => have := LMc39.out; omega); intro v420 w40 ho hb hg hat; rw [← Ny419.out] at ho; replace HB := Aside0.mk (hb); have HO421 := Aside0.mk (ho); clear HO_3; clear ho hb hg hat))
                   go_roundg k6
                   case measure => have := HK1.out; have := HK2.out; have := HJ5.out; have := HJ13.out; have := HK5.out; have := HK6.out; omega
                   case rel => exact ⟨(y419), (wrap64 (x9_6 + 1)), oR, H', ⟨by have := HK1.out; have := HK2.out; have := HJ5.out; have := HJ13.out; have := HK5.out; have := HK6.out; omega⟩, ⟨fR HO421.out⟩, ⟨fW HB.out⟩⟩
                 ·rw [if_neg c29] at H
                  have c29b0 := decide_eq_false c29
                  clear c29
                  obtain ⟨c41, H⟩ := eT H
                  have LMc41 := Aside0.mk c41
                  clear c41
                  obtain ⟨y422, hy422⟩ : ∃ y_ : List Int, y_ = (x3_6 ++ [34]) := ⟨_, rfl⟩
                  replace H : (gleberef7_PrintRecords.l1 k6 l0 y422 x4_1 (wrap64 (x5_2 + 1))) = some r := by first | (rw [hy422]; with_reducible exact H) | (have H2_ := (Option.bind_some _ _).symm.trans H; rw [hy422]; with_reducible exact H2_) | (have H2_ := (Option.bind_some _ _).symm.trans H; with_reducible exact H2_) | with_reducible exact H | (rw [hy422]; exact H) | exact H
                  have Ny422 := Aside0.mk hy422
                  clear hy422
                  have H' := Aside0.mk H
                  clear H
                  go_wp2_with (first | ((with_reducible refine gate_builtin (b := .append) (xs := #[.tmp 105, .tmp 106]) rfl ?_); (try (refine gate_guard (by rfl) ?_; dsimp only)); at_builtin; refine Kd.R_append (Kd.int .u8) (w0 := w) w.heap.size rfl (.tmp 105) (.tmp 106) 35 5 (.int .u8 0) 1 rfl Tryd.underlying35 info5 rfl (by decide) (by omega) u3 x3_6 34 [.int .u8 34] (fun _ => True) (fun _ => False) rfl rfl ?aP (fun _ hk => hk.elim) ?aF ?aO ?aB ?aS ?aL ?_; (case aP => exact rfl); (case aB => exact (fW HB.out)); (case aF => exact (fun _ _ => trivial)); (case aO => exact (fR HO_3.out)); (case aS => exact (below_size (fW HB.out))); (case aL => have := LMc41.out; omega); intro v423 w42 ho hb hg hat; rw [← Ny422.out] at ho; replace HB := Aside0.mk (hb); have HO424 := Aside0.mk (ho); clear HO_3; clear ho hb hg hat))
                  go_roundg k6
                  case measure => have := HK1.out; have := HK2.out; have := HJ5.out; have := HJ13.out; have := HK5.out; have := HK6.out; omega
                  case rel => exact ⟨(y422), (wrap64 (x5_2 + 1)), oR, H', ⟨by have := HK1.out; have := HK2.out; have := HJ5.out; have := HJ13.out; have := HK5.out; have := HK6.out; omega⟩, ⟨fR HO424.out⟩, ⟨fW HB.out⟩⟩
              ·replace c26 := Bool.eq_false_iff.mpr c26
               subst c26
               replace H := iF H
               obtain ⟨c43, H⟩ := eT H
               have LMc43 := Aside0.mk c43
               clear c43
               obtain ⟨y407, hy407⟩ : ∃ y_ : List Int, y_ = (x3_5 ++ bytesOf (rdOf ByteArray.empty (rd_L5 l0 x4_1) x5_2)) := ⟨_, rfl⟩
               replace H : (gleberef7_PrintRecords.l1 k5 l0 y407 x4_1 (wrap64 (x5_2 + 1))) = some r := by first | (rw [hy407]; with_reducible exact H) | (have H2_ := (Option.bind_some _ _).symm.trans H; rw [hy407]; with_reducible exact H2_) | (have H2_ := (Option.bind_some _ _).symm.trans H; with_reducible exact H2_) | with_reducible exact H | (rw [hy407]; exact H) | exact H
               have Ny407 := Aside0.mk hy407
               clear hy407
               have H' := Aside0.mk H
               clear H
               go_wp2_with (first | (at_builtin; refine print_append_str (w0 := w) w.heap.size rfl (.tmp 80) _ 35 9 5 rfl Tryd.underlying35 Tryd.underlying9 info5 u3 x3_5 (rdOf ByteArray.empty (rd_L5 l0 x4_1) x5_2) rfl rfl ?aO ?aB ?aS ?aL ?_; (case aB => exact (fW HB.out)); (case aO => exact (Kd.own_of_R (fR HO_3.out))); (case aS => exact (below_size (fW HB.out))); (case aL => have := LMc43.out; omega); intro v408 w44 ho0 hb hg; have ho := Kd.R_of_own (h1 := fun _ => rfl) (ok := fun _ => True) ho0 (fun _ _ => trivial); clear ho0; have hat := True.intro; rw [← Ny407.out] at ho; change Kd.R (Kd.int .u8) 5 w44 w.heap.size (fun _ => True) v408 y407 at ho; replace HB := Aside0.mk (hb); have HO409 := Aside0.mk (ho); clear HO_3; clear ho hb hg hat))
               go_roundg k5
               case measure => have := HK1.out; have := HK2.out; have := HJ5.out; have := HJ13.out; have := HK5.out; omega
               case rel => exact ⟨(y407), (wrap64 (x5_2 + 1)), oR, H', ⟨by have := HK1.out; have := HK2.out; have := HJ5.out; have := HJ13.out; have := HK5.out; omega⟩, ⟨fR HO409.out⟩, ⟨fW HB.out⟩⟩
      ·rw [if_neg c5] at H
       have c5b0 := decide_eq_false c5
       clear c5
       obtain ⟨c45, H⟩ := eT H
       have LMc45 := Aside0.mk c45
       clear c45
       obtain ⟨y398, hy398⟩ : ∃ y_ : List Int, y_ = (x3_2 ++ [10]) := ⟨_, rfl⟩
       replace H : (gleberef7_PrintRecords.l0 k2 l0 y398 (wrap64 (x4_1 + 1))) = some r := by first | (rw [hy398]; with_reducible exact H) | (have H2_ := (Option.bind_some _ _).symm.trans H; rw [hy398]; with_reducible exact H2_) | (have H2_ := (Option.bind_some _ _).symm.trans H; with_reducible exact H2_) | with_reducible exact H | (rw [hy398]; exact H) | exact H
       have Ny398 := Aside0.mk hy398
       clear hy398
       have H' := Aside0.mk H
       clear H
       have p397 : 0 ≤ (x4_1 : Int) := oD
       have q397 : x4_1 < (l0.length : Int) := oD
       obtain ⟨ad397, A397_0, c397_0, e397, hx397_0, hl397_0, hi397_0⟩ := at_L5 HR0.out x4_1 p397 q397
       cases e397
       replace hx397_0 := (HB.out.cell (World.block_lt_of_cell? w _ hx397_0)).trans hx397_0
       have HR397_0 := Aside0.mk hi397_0
       have HC397_0 := Aside0.mk hl397_0
       clear hi397_0 hl397_0
       replace p397 := eq_true p397
       replace q397 := eq_true q397
       go_wp2_with (first | ((with_reducible refine gate_builtin (b := .append) (xs := #[.tmp 108, .tmp 109]) rfl ?_); (try (refine gate_guard (by rfl) ?_; dsimp only)); at_builtin; refine Kd.R_append (Kd.int .u8) (w0 := w) w.heap.size rfl (.tmp 108) (.tmp 109) 35 5 (.int .u8 0) 1 rfl Tryd.underlying35 info5 rfl (by decide) (by omega) u3 x3_2 10 [.int .u8 10] (fun _ => True) (fun _ => False) rfl rfl ?aP (fun _ hk => hk.elim) ?aF ?aO ?aB ?aS ?aL ?_; (case aP => exact rfl); (case aB => exact (fW HB.out)); (case aF => exact (fun _ _ => trivial)); (case aO => exact (fR HO_3.out)); (case aS => exact (below_size (fW HB.out))); (case aL => have := LMc45.out; omega); intro v399 w46 ho hb hg hat; rw [← Ny398.out] at ho; replace HB := Aside0.mk (hb); have HO400 := Aside0.mk (ho); clear HO_3; clear ho hb hg hat))
       go_roundg k2
       case measure => have := HK1.out; have := HK2.out; omega
       case rel => exact ⟨(y398), (wrap64 (x4_1 + 1)), oR, H', ⟨by have := HK1.out; have := HK2.out; omega⟩, ⟨fR HO400.out⟩, ⟨fW HB.out⟩⟩
   ·rw [if_neg c2] at H
    have c2b0 := decide_eq_false c2
    clear c2
    obtain rfl := Option.some.inj H
    go_wp2
    go_ret
    exact ⟨_, oE, fR HO_3.out, fW HB.out⟩

end Go.Proofs.YtcgchblljhbdaaaDoor.C
