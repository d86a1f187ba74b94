-- Printed by this session's own program (wip/xprint) out of the translation. Lean checks it.
import Derived.Test.YtcgchblljhbdaaaDoorCx0
import Derived.Test.YtcgchblljhbdaaaDoorCx1
import Derived.Test.YtcgchblljhbdaaaDoorCx5
namespace Go.Proofs.YtcgchblljhbdaaaDoor.C
open Go.Proofs.YtcgchblljhbdaaaDoor
open Go.RowKit Go.Proofs.YtcgchblljhbdaaaDoorW.PrintWords Go.Proofs.YtcgchblljhbdaaaDoorW.PrintLast Go.Proofs.YtcgchblljhbdaaaDoorW.PrintMore
attribute [local go_sem] max2_int min2_int max_two min_two max_three min_three max_four min_four   -- for this text's walks alone
set_option linter.unusedVariables false
set_option linter.unusedSimpArgs false

attribute [local go_sem high] eqA54
/-! ### csvr_Print: function 38 -/
mutual
def csvr_Print.l0 : Nat → List Int → List (List ByteArray) → Int → Int → Option (List Int)
 | 0, _, _, _, _ => none
 | k + 1, x3, x8, x9, x10 => if x10 < x9 then (if 0 ≤ x10 then (if x10 < (x8.length : Int) then (csvr_Print.l1 k x3 (rd_L5 x8 x10) x8 x9 x10 (rd_L5 x8 x10) ((rd_L5 x8 x10).length : Int) 0) else (none)) else (none)) else (if (strOfNums x3).size ≤ 9223372036854775807 then (some (bytesOf (strOfNums x3))) else (none))
def csvr_Print.l1 : Nat → List Int → List ByteArray → List (List ByteArray) → Int → Int → List ByteArray → Int → Int → Option (List Int)
 | 0, _, _, _, _, _, _, _, _ => none
 | k + 1, x3, x5, x8, x9, x10, x14, x15, x16 => if x16 < x15 then (if 0 ≤ x16 then (if x16 < (x14.length : Int) then (if x16 > 0 then (if x3.length + 1 < 140737488355328 then (csvr_Print.j2 k (x3 ++ [44]) x5 (rdOf ByteArray.empty x14 x16) x8 x9 x10 x14 x15 x16) else (none)) else (csvr_Print.j2 k x3 x5 (rdOf ByteArray.empty x14 x16) x8 x9 x10 x14 x15 x16)) else (none)) else (none)) else (if x3.length + 1 < 140737488355328 then (csvr_Print.l0 k (x3 ++ [10]) x8 x9 (wrap64 (x10 + 1))) else (none))
def csvr_Print.j2 : Nat → List Int → List ByteArray → ByteArray → List (List ByteArray) → Int → Int → List ByteArray → Int → Int → Option (List Int)
 | 0, _, _, _, _, _, _, _, _, _ => none
 | k + 1, x3, x5, x7, x8, x9, x10, x14, x15, x16 => (strings_IndexByte.f x7 34).bind fun t195 => (if t195 ≥ 0 then (csvr_Print.j3 k x3 x5 x7 x8 x9 x10 x14 x15 x16 true) else ((strings_IndexByte.f x7 44).bind fun t196 => (if t196 ≥ 0 then (csvr_Print.j3 k x3 x5 x7 x8 x9 x10 x14 x15 x16 true) else ((strings_IndexByte.f x7 10).bind fun t197 => (if t197 ≥ 0 then (csvr_Print.j3 k x3 x5 x7 x8 x9 x10 x14 x15 x16 true) else ((strings_IndexByte.f x7 13).bind fun t198 => (if t198 ≥ 0 then (csvr_Print.j3 k x3 x5 x7 x8 x9 x10 x14 x15 x16 true) else (if x7.toList = ([] : List UInt8) then (csvr_Print.j3 k x3 x5 x7 x8 x9 x10 x14 x15 x16 ((x5.length : Int) == 1)) else (csvr_Print.j3 k x3 x5 x7 x8 x9 x10 x14 x15 x16 false)))))))))
def csvr_Print.j3 : Nat → List Int → List ByteArray → ByteArray → List (List ByteArray) → Int → Int → List ByteArray → Int → Int → Bool → Option (List Int)
 | 0, _, _, _, _, _, _, _, _, _, _ => none
 | k + 1, x3, x5, x7, x8, x9, x10, x14, x15, x16, x50 => if x50 = true then ((strings_ReplaceAll.f x7 (⟨#[34]⟩ : ByteArray) (⟨#[34, 34]⟩ : ByteArray)).bind fun t199 => (if 1 + t199.size ≤ 9223372036854775807 then (if 1 + t199.size + 1 ≤ 9223372036854775807 then (if x3.length + 1 + t199.size + 1 < 140737488355328 then (csvr_Print.l1 k (x3 ++ bytesOf (((⟨#[34]⟩ : ByteArray) ++ t199) ++ (⟨#[34]⟩ : ByteArray))) x5 x8 x9 x10 x14 x15 (wrap64 (x16 + 1))) else (none)) else (none)) else (none))) else (if x3.length + x7.size < 140737488355328 then (csvr_Print.l1 k (x3 ++ bytesOf x7) x5 x8 x9 x10 x14 x15 (wrap64 (x16 + 1))) else (none))
end
def csvr_Print.f (k : Nat) (l0 : List (List ByteArray)) : Option (List Int) := csvr_Print.l0 k (([] : List Int)) l0 (l0.length : Int) 0
theorem csvr_Print.mono_l : ∀ k, (∀ y0 y1 y2 y3, LeO (csvr_Print.l0 k y0 y1 y2 y3) (csvr_Print.l0 (k + 1) y0 y1 y2 y3)) ∧ (∀ y0 y1 y2 y3 y4 y5 y6 y7, LeO (csvr_Print.l1 k y0 y1 y2 y3 y4 y5 y6 y7) (csvr_Print.l1 (k + 1) y0 y1 y2 y3 y4 y5 y6 y7)) ∧ (∀ y0 y1 y2 y3 y4 y5 y6 y7 y8, LeO (csvr_Print.j2 k y0 y1 y2 y3 y4 y5 y6 y7 y8) (csvr_Print.j2 (k + 1) y0 y1 y2 y3 y4 y5 y6 y7 y8)) ∧ (∀ y0 y1 y2 y3 y4 y5 y6 y7 y8 y9, LeO (csvr_Print.j3 k y0 y1 y2 y3 y4 y5 y6 y7 y8 y9) (csvr_Print.j3 (k + 1) y0 y1 y2 y3 y4 y5 y6 y7 y8 y9))
 | 0 => ⟨fun _ _ _ _ r h => by simp [csvr_Print.l0] at h, fun _ _ _ _ _ _ _ _ r h => by simp [csvr_Print.l1] at h, fun _ _ _ _ _ _ _ _ _ r h => by simp [csvr_Print.j2] at h, fun _ _ _ _ _ _ _ _ _ _ r h => by simp [csvr_Print.j3] at h⟩
 | k + 1 => by
  obtain ⟨ih0, ih1, ih2, ih3⟩ := csvr_Print.mono_l k
  refine ⟨?_, ?_, ?_, ?_⟩
  ·intro y0 y1 y2 y3
   unfold csvr_Print.l0
   repeat' first
   | (with_reducible first | exact ih0 _ _ _ _ | exact ih1 _ _ _ _ _ _ _ _ | exact ih2 _ _ _ _ _ _ _ _ _ | exact ih3 _ _ _ _ _ _ _ _ _ _ | exact LeO.refl _ | exact LeO.none _ | refine LeO.ite ?_ ?_ | refine LeO.bind ?_ (fun _ => ?_))
   | exact ih0 _ _ _ _
   | exact ih1 _ _ _ _ _ _ _ _
   | exact ih2 _ _ _ _ _ _ _ _ _
   | exact ih3 _ _ _ _ _ _ _ _ _ _
   | exact LeO.none _
   | refine LeO.ite ?_ ?_
   | refine LeO.bind ?_ (fun _ => ?_)
  ·intro y0 y1 y2 y3 y4 y5 y6 y7
   unfold csvr_Print.l1
   repeat' first
   | (with_reducible first | exact ih0 _ _ _ _ | exact ih1 _ _ _ _ _ _ _ _ | exact ih2 _ _ _ _ _ _ _ _ _ | exact ih3 _ _ _ _ _ _ _ _ _ _ | exact LeO.refl _ | exact LeO.none _ | refine LeO.ite ?_ ?_ | refine LeO.bind ?_ (fun _ => ?_))
   | exact ih0 _ _ _ _
   | exact ih1 _ _ _ _ _ _ _ _
   | exact ih2 _ _ _ _ _ _ _ _ _
   | exact ih3 _ _ _ _ _ _ _ _ _ _
   | exact LeO.none _
   | refine LeO.ite ?_ ?_
   | refine LeO.bind ?_ (fun _ => ?_)
  ·intro y0 y1 y2 y3 y4 y5 y6 y7 y8
   unfold csvr_Print.j2
   repeat' first
   | (with_reducible first | exact ih0 _ _ _ _ | exact ih1 _ _ _ _ _ _ _ _ | exact ih2 _ _ _ _ _ _ _ _ _ | exact ih3 _ _ _ _ _ _ _ _ _ _ | exact LeO.refl _ | exact LeO.none _ | refine LeO.ite ?_ ?_ | refine LeO.bind ?_ (fun _ => ?_))
   | exact ih0 _ _ _ _
   | exact ih1 _ _ _ _ _ _ _ _
   | exact ih2 _ _ _ _ _ _ _ _ _
   | exact ih3 _ _ _ _ _ _ _ _ _ _
   | exact LeO.none _
   | refine LeO.ite ?_ ?_
   | refine LeO.bind ?_ (fun _ => ?_)
  ·intro y0 y1 y2 y3 y4 y5 y6 y7 y8 y9
   unfold csvr_Print.j3
   repeat' first
   | (with_reducible first | exact ih0 _ _ _ _ | exact ih1 _ _ _ _ _ _ _ _ | exact ih2 _ _ _ _ _ _ _ _ _ | exact ih3 _ _ _ _ _ _ _ _ _ _ | exact LeO.refl _ | exact LeO.none _ | refine LeO.ite ?_ ?_ | refine LeO.bind ?_ (fun _ => ?_))
   | exact ih0 _ _ _ _
   | exact ih1 _ _ _ _ _ _ _ _
   | exact ih2 _ _ _ _ _ _ _ _ _
   | exact ih3 _ _ _ _ _ _ _ _ _ _
   | exact LeO.none _
   | refine LeO.ite ?_ ?_
   | refine LeO.bind ?_ (fun _ => ?_)
theorem csvr_Print.mono : ∀ a0 k, LeO (csvr_Print.f k a0) (csvr_Print.f (k + 1) a0) := by
 intro a0 k
 obtain ⟨ih0, ih1, ih2, ih3⟩ := csvr_Print.mono_l k
 unfold csvr_Print.f
 repeat' first
   | (with_reducible first | exact ih0 _ _ _ _ | exact ih1 _ _ _ _ _ _ _ _ | exact ih2 _ _ _ _ _ _ _ _ _ | exact ih3 _ _ _ _ _ _ _ _ _ _ | exact LeO.refl _ | exact LeO.none _ | refine LeO.ite ?_ ?_ | refine LeO.bind ?_ (fun _ => ?_))
   | exact ih0 _ _ _ _
   | exact ih1 _ _ _ _ _ _ _ _
   | exact ih2 _ _ _ _ _ _ _ _ _
   | exact ih3 _ _ _ _ _ _ _ _ _ _
   | exact LeO.none _
   | refine LeO.ite ?_ ?_
   | refine LeO.bind ?_ (fun _ => ?_)
set_option maxHeartbeats 8000000 in
set_option maxRecDepth 100000 in
theorem csvr_Print.calls (k : Nat) (A0 : Option Addr) (c0 : Nat) (l0 : List (List ByteArray)) (r : List Int) (w : World) (hr0 : Kd.C (Kd.slice 9 Kd.string) w A0 l0.length l0) (hc0 : l0.length ≤ c0) (hMax : XM.Tabs w) (h : csvr_Print.f k l0 = some r) :
  Calls Tryd.prog 38 #[.slice A0 l0.length c0] w fun e w' => ∃ v0_ : Value, e = .returned (v0_) ∧ Kd.V (Kd.int .u8) 5 w' w.heap.size (fun k_ => (w.heap.size ≤ k_)) v0_ r ∧ Below w.heap.size w w' := by
 have HR0 := Aside0.mk hr0
 have HC0 := Aside0.mk hc0
 clear hr0 hc0
 have HB := Aside0.mk (Below.refl w.heap.size w)
 have H : (csvr_Print.l0 k (([] : List Int)) l0 (l0.length : Int) 0) = some r := h
 clear h
 obtain ⟨y178, hy178⟩ : ∃ y_ : List Int, y_ = (([] : List Int)) := ⟨_, rfl⟩
 replace H : (csvr_Print.l0 k y178 l0 (l0.length : Int) 0) = some r := by first | (rw [hy178]; with_reducible exact H) | (have H2_ := (Option.bind_some _ _).symm.trans H; rw [hy178]; with_reducible exact H2_) | (have H2_ := (Option.bind_some _ _).symm.trans H; with_reducible exact H2_) | with_reducible exact H | (rw [hy178]; exact H) | exact H
 have Ny178 := Aside0.mk hy178
 clear hy178
 have H' := Aside0.mk H
 clear H
 go_enter Tryd.func38, Tryd.ntmps38
 go_wp2_with (first | ((with_reducible refine gate_dst (N := 3) rfl ?_); (try (refine gate_guard (by rfl) ?_; dsimp only)); refine bE (N := 3) (cs := #[.pointer none, .slice none 0 0]) (t := 93) (h := ?_); intro gb178 hg w2 hbox hb; have ho_ := Kd.B_new (d := Kd.int .u8) (base := w.heap.size) (fun k_ => (w.heap.size ≤ k_)) hbox (by rw [hg]; exact (below_size (fW HB.out))) (fun k_ hk => by first | exact trivial | exact hk); rw [← Ny178.out] at ho_; replace HB := Aside0.mk (below_step (fW HB.out) hb); have HO180 := Aside0.mk (ho_); clear hb hbox hg ho_))
 go_loopg [10] k (fun kq v10 w' => ∃ (x3_1 : List Int) (x10_1 : Int), v10 = .int .i64 x10_1 ∧ Aside0 (csvr_Print.l0 kq x3_1 l0 (l0.length : Int) x10_1 = some r) ∧ Aside0 (kq ≤ k) ∧ Aside0 (Kd.B (Kd.int .u8) 93 w' w.heap.size (fun k_ => (w.heap.size ≤ k_)) (.pointer (some ⟨gb178, 0, none⟩)) x3_1) ∧ Aside0 (Below w.heap.size w w'))
 case atStart => exact ⟨(y178), (0), oR, H', ⟨Nat.le_refl _⟩, ⟨by (with_reducible repeat (first | apply Kd.B_alloc | apply Kd.B_drewN | apply Kd.B_drew)); exact HO180.out⟩, ⟨fW HB.out⟩⟩
 case round =>
  clear H'
  obtain ⟨x3_1, x10_1, rfl, HA, HK1, HO_3, HB⟩ := hrel
  cases gk with
  | zero => exact absurd HA.out (by simp [csvr_Print.l0])
  | succ k1 =>
   have H := HA.out
   clear HA
   simp only [csvr_Print.l0] at H
   by_cases c3 : x10_1 < (l0.length : Int)
   ·rw [if_pos c3] at H
    have c3b0 := decide_eq_true c3
    clear c3
    obtain ⟨c4, H⟩ := eT H
    have c4b0 := decide_eq_true c4
    clear c4
    obtain ⟨c5, H⟩ := eT H
    have c5b0 := decide_eq_true c5
    clear c5
    have H' := Aside0.mk H
    clear H
    have p187 : 0 ≤ (x10_1 : Int) := oD
    have q187 : x10_1 < (l0.length : Int) := oD
    obtain ⟨ad187, A187_0, c187_0, e187, hx187_0, hl187_0, hi187_0⟩ := at_L5 HR0.out x10_1 p187 q187
    cases e187
    replace hx187_0 := (HB.out.cell (World.block_lt_of_cell? w _ hx187_0)).trans hx187_0
    have HR187_0 := Aside0.mk hi187_0
    have HC187_0 := Aside0.mk hl187_0
    clear hi187_0 hl187_0
    replace p187 := eq_true p187
    replace q187 := eq_true q187
    go_wp2
    go_loopg [16] k1 (fun kq v16 w' => ∃ (x3_2 : List Int) (x16_2 : Int), v16 = .int .i64 x16_2 ∧ Aside0 (csvr_Print.l1 kq x3_2 (rd_L5 l0 x10_1) l0 (l0.length : Int) x10_1 (rd_L5 l0 x10_1) ((rd_L5 l0 x10_1).length : Int) x16_2 = some r) ∧ Aside0 (kq ≤ k1) ∧ Aside0 (Kd.B (Kd.int .u8) 93 w' w.heap.size (fun k_ => (w.heap.size ≤ k_)) (.pointer (some ⟨gb178, 0, none⟩)) x3_2) ∧ Aside0 (Below w.heap.size w w'))
    case atStart => exact ⟨(x3_1), (0), oR, H', ⟨Nat.le_refl _⟩, ⟨by (with_reducible repeat (first | apply Kd.B_alloc | apply Kd.B_drewN | apply Kd.B_drew)); exact HO_3.out⟩, ⟨fW HB.out⟩⟩
    case round =>
     clear H'
     try clear c3; try clear c3b0; try clear c4; try clear c4b0; try clear c5; try clear c5b0; try clear hx187_0; try clear p187; try clear q187
     obtain ⟨x3_2, x16_2, rfl, HA, HK2, HO_3, HB⟩ := hrel
     cases gk with
     | zero => exact absurd HA.out (by simp [csvr_Print.l1])
     | succ k2 =>
      have H := HA.out
      clear HA
      simp only [csvr_Print.l1] at H
      by_cases c6 : x16_2 < ((rd_L5 l0 x10_1).length : Int)
      ·rw [if_pos c6] at H
       have c6b0 := decide_eq_true c6
       clear c6
       obtain ⟨c7, H⟩ := eT H
       have c7b0 := decide_eq_true c7
       clear c7
       obtain ⟨c8, H⟩ := eT H
       have c8b0 := decide_eq_true c8
       clear c8
       have HC9 := Aside0.mk H
       clear H
       have p191 : 0 ≤ (x16_2 : Int) := oD
       have q191 : x16_2 < ((rd_L5 l0 x10_1).length : Int) := oD
       obtain ⟨ad191, e191, hx191_0⟩ := Kd.at_string HR187_0.out x16_2 p191 q191
       cases e191
       replace hx191_0 := (HB.out.cell (World.block_lt_of_cell? w _ hx191_0)).trans hx191_0
       replace p191 := eq_true p191
       replace q191 := eq_true q191
       go_upto_if 22 with (fail)
       go_cut [] (fun wc => ∃ (kq : Nat) (x3_8 : List Int), Aside0 (csvr_Print.j2 kq x3_8 (rd_L5 l0 x10_1) (rdOf ByteArray.empty (rd_L5 l0 x10_1) x16_2) l0 (l0.length : Int) x10_1 (rd_L5 l0 x10_1) ((rd_L5 l0 x10_1).length : Int) x16_2 = some r) ∧ Aside0 (kq ≤ k2) ∧ Aside0 (Kd.B (Kd.int .u8) 93 wc w.heap.size (fun k_ => (w.heap.size ≤ k_)) (.pointer (some ⟨gb178, 0, none⟩)) x3_8) ∧ Aside0 (Below w.heap.size w wc))
       case first =>
        have H := HC9.out
        clear HC9
        by_cases c10 : x16_2 > 0
        ·rw [if_pos c10] at H
         have c10b0 := decide_eq_true c10
         clear c10
         (first | rw [c10b0] | (simp only [i64_w, i32_w]; rw [c10b0]) | skip)
         obtain ⟨c11, H⟩ := eT H
         have LMc11 := Aside0.mk c11
         clear c11
         obtain ⟨y192, hy192⟩ : ∃ y_ : List Int, y_ = (x3_2 ++ [44]) := ⟨_, rfl⟩
         replace H : (csvr_Print.j2 k2 y192 (rd_L5 l0 x10_1) (rdOf ByteArray.empty (rd_L5 l0 x10_1) x16_2) l0 (l0.length : Int) x10_1 (rd_L5 l0 x10_1) ((rd_L5 l0 x10_1).length : Int) x16_2) = some r := by first | (rw [hy192]; with_reducible exact H) | (have H2_ := (Option.bind_some _ _).symm.trans H; rw [hy192]; with_reducible exact H2_) | (have H2_ := (Option.bind_some _ _).symm.trans H; with_reducible exact H2_) | with_reducible exact H | (rw [hy192]; exact H) | exact H
         have Ny192 := Aside0.mk hy192
         clear hy192
         have H' := Aside0.mk H
         clear H
         go_wp2_with (first | ((with_reducible refine gate_callee (f := 61) rfl ?_); refine goesL_ (some 23) rfl rfl Tryd.func61 (by kernel_rfl) rfl #[.pointer (some ⟨gb178, 0, none⟩), .int .u8 44] rfl (by (try simp only [List.map_toArray, List.map_cons, List.map_nil]); first | done | rfl) ?_; (with_reducible refine (strings_Builder_WriteByte.calls (d := Kd.int .u8) (v := .pointer (some ⟨gb178, 0, none⟩)) (x := x3_2) (w0 := w) (ok' := (fun k_ => (w.heap.size ≤ k_))) (fun k_ => (w.heap.size ≤ k_)) (fun k_ hk => by first | exact trivial | exact hk) 44 ⟨by decide, by decide⟩ (by have := LMc11.out; omega) ?side1 ?side2 ?side3).mono ?_); (case side1 => exact (by (with_reducible repeat (first | apply Kd.B_alloc | apply Kd.B_drewN | apply Kd.B_drew)); exact HO_3.out)); (case side2 => exact (fW HB.out)); (case side3 => exact (below_size (fW HB.out))); rintro e w12 ⟨rfl, ho, hb, hw⟩; refine ⟨_, rfl, ?_⟩; rw [← Ny192.out] at ho; replace HB := Aside0.mk (hb); have HO194 := Aside0.mk (ho); clear HO_3; clear ho hb hw))
         go_meet
         case rel => exact ⟨_, (y192), H', ⟨by have := HK1.out; have := HK2.out; first | omega | exact Nat.le_refl _⟩, ⟨by (with_reducible repeat (first | apply Kd.B_alloc | apply Kd.B_drewN | apply Kd.B_drew)); exact HO194.out⟩, ⟨fW HB.out⟩⟩
        ·rw [if_neg c10] at H
         have c10b0 := decide_eq_false c10
         clear c10
         (first | rw [c10b0] | (simp only [i64_w, i32_w]; rw [c10b0]) | skip)
         have H' := Aside0.mk H
         clear H
         go_wp2
         go_meet
         case rel => exact ⟨_, (x3_2), H', ⟨by have := HK1.out; have := HK2.out; first | omega | exact Nat.le_refl _⟩, ⟨by (with_reducible repeat (first | apply Kd.B_alloc | apply Kd.B_drewN | apply Kd.B_drew)); exact HO_3.out⟩, ⟨fW HB.out⟩⟩
       case rest =>
        clear HC9
        try clear c3; try clear c3b0; try clear c4; try clear c4b0; try clear c5; try clear c5b0; try clear c6; try clear c6b0; try clear c7; try clear c7b0; try clear c8; try clear c8b0; try clear c10; try clear c10b0; try clear c11; try clear hx187_0; try clear hx191_0; try clear p187; try clear p191; try clear q187; try clear q191
        obtain ⟨kq, x3_8, HA, HJ8, HO_3, HB⟩ := hcut
        cases kq with
        | zero => exact absurd HA.out (by simp [csvr_Print.j2])
        | succ kj8 =>
         have H := HA.out
         clear HA
         simp only [csvr_Print.j2] at H
         have HC13 := Aside0.mk H
         clear H
         go_upto_region 10 with (fail)
         go_cut [50] (fun v50 wc => ∃ (kq : Nat) (x50_12 : Bool), v50 = .bool x50_12 ∧ Aside0 (csvr_Print.j3 kq x3_8 (rd_L5 l0 x10_1) (rdOf ByteArray.empty (rd_L5 l0 x10_1) x16_2) l0 (l0.length : Int) x10_1 (rd_L5 l0 x10_1) ((rd_L5 l0 x10_1).length : Int) x16_2 x50_12 = some r) ∧ Aside0 (kq ≤ kj8) ∧ Aside0 (Kd.B (Kd.int .u8) 93 wc w.heap.size (fun k_ => (w.heap.size ≤ k_)) (.pointer (some ⟨gb178, 0, none⟩)) x3_8) ∧ Aside0 (Below w.heap.size w wc))
         case first =>
          have H := HC13.out
          clear HC13
          obtain ⟨t195, A140, H⟩ := bS H
          have A14 := Aside0.mk A140
          clear A140
          by_cases c15 : t195 ≥ 0
          ·rw [if_pos c15] at H
           have c15b0 := decide_eq_true c15
           clear c15
           (first | rw [c15b0] | (simp only [i64_w, i32_w]; rw [c15b0]) | skip)
           have H' := Aside0.mk H
           clear H
           go_wp2_with (first | ((with_reducible refine gate_callee (f := 62) rfl ?_); refine goesL_ (some 25) rfl rfl Tryd.func62 (by kernel_rfl) rfl #[.string (rdOf ByteArray.empty (rd_L5 l0 x10_1) x16_2), .int .u8 34] rfl oA ?_; (with_reducible refine (strings_IndexByte.calls (rdOf ByteArray.empty (rd_L5 l0 x10_1) x16_2) 34 t195 _ A14.out).mono ?_); rintro e w' ⟨rfl, ⟨nd, rfl⟩⟩; refine ⟨_, rfl, ?_⟩))
           go_meet
           case rel => exact ⟨_, (true), oR, H', ⟨by have := HK1.out; have := HK2.out; have := HJ8.out; first | omega | exact Nat.le_refl _⟩, ⟨by (with_reducible repeat (first | apply Kd.B_alloc | apply Kd.B_drewN | apply Kd.B_drew)); exact HO_3.out⟩, ⟨fW HB.out⟩⟩
          ·rw [if_neg c15] at H
           have c15b0 := decide_eq_false c15
           clear c15
           (first | rw [c15b0] | (simp only [i64_w, i32_w]; rw [c15b0]) | skip)
           obtain ⟨t196, A160, H⟩ := bS H
           have A16 := Aside0.mk A160
           clear A160
           by_cases c17 : t196 ≥ 0
           ·rw [if_pos c17] at H
            have c17b0 := decide_eq_true c17
            clear c17
            have H' := Aside0.mk H
            clear H
            go_wp2_with (first | ((with_reducible refine gate_callee (f := 62) rfl ?_); refine goesL_ (some 25) rfl rfl Tryd.func62 (by kernel_rfl) rfl #[.string (rdOf ByteArray.empty (rd_L5 l0 x10_1) x16_2), .int .u8 34] rfl oA ?_; (with_reducible refine (strings_IndexByte.calls (rdOf ByteArray.empty (rd_L5 l0 x10_1) x16_2) 34 t195 _ A14.out).mono ?_); rintro e w' ⟨rfl, ⟨nd, rfl⟩⟩; refine ⟨_, rfl, ?_⟩) | (go_at_call 62; (with_reducible refine (strings_IndexByte.calls (rdOf ByteArray.empty (rd_L5 l0 x10_1) x16_2) 44 t196 _ A16.out).mono ?_); rintro e w' ⟨rfl, ⟨nd, rfl⟩⟩))
            go_meet
            case rel => exact ⟨_, (true), oR, H', ⟨by have := HK1.out; have := HK2.out; have := HJ8.out; first | omega | exact Nat.le_refl _⟩, ⟨by (with_reducible repeat (first | apply Kd.B_alloc | apply Kd.B_drewN | apply Kd.B_drew)); exact HO_3.out⟩, ⟨fW HB.out⟩⟩
           ·rw [if_neg c17] at H
            have c17b0 := decide_eq_false c17
            clear c17
            obtain ⟨t197, A180, H⟩ := bS H
            have A18 := Aside0.mk A180
            clear A180
            by_cases c19 : t197 ≥ 0
            ·rw [if_pos c19] at H
             have c19b0 := decide_eq_true c19
             clear c19
             have H' := Aside0.mk H
             clear H
             go_wp2_with (first | ((with_reducible refine gate_callee (f := 62) rfl ?_); refine goesL_ (some 25) rfl rfl Tryd.func62 (by kernel_rfl) rfl #[.string (rdOf ByteArray.empty (rd_L5 l0 x10_1) x16_2), .int .u8 34] rfl oA ?_; (with_reducible refine (strings_IndexByte.calls (rdOf ByteArray.empty (rd_L5 l0 x10_1) x16_2) 34 t195 _ A14.out).mono ?_); rintro e w' ⟨rfl, ⟨nd, rfl⟩⟩; refine ⟨_, rfl, ?_⟩) | (go_at_call 62; (with_reducible refine (strings_IndexByte.calls (rdOf ByteArray.empty (rd_L5 l0 x10_1) x16_2) 44 t196 _ A16.out).mono ?_); rintro e w' ⟨rfl, ⟨nd, rfl⟩⟩) | (go_at_call 62; (with_reducible refine (strings_IndexByte.calls (rdOf ByteArray.empty (rd_L5 l0 x10_1) x16_2) 10 t197 _ A18.out).mono ?_); rintro e w' ⟨rfl, ⟨nd, rfl⟩⟩))
             go_meet
             case rel => exact ⟨_, (true), oR, H', ⟨by have := HK1.out; have := HK2.out; have := HJ8.out; first | omega | exact Nat.le_refl _⟩, ⟨by (with_reducible repeat (first | apply Kd.B_alloc | apply Kd.B_drewN | apply Kd.B_drew)); exact HO_3.out⟩, ⟨fW HB.out⟩⟩
            ·rw [if_neg c19] at H
             have c19b0 := decide_eq_false c19
             clear c19
             obtain ⟨t198, A200, H⟩ := bS H
             have A20 := Aside0.mk A200
             clear A200
             by_cases c21 : t198 ≥ 0
             ·rw [if_pos c21] at H
              have c21b0 := decide_eq_true c21
              clear c21
              have H' := Aside0.mk H
              clear H
              go_wp2_with (first | ((with_reducible refine gate_callee (f := 62) rfl ?_); refine goesL_ (some 25) rfl rfl Tryd.func62 (by kernel_rfl) rfl #[.string (rdOf ByteArray.empty (rd_L5 l0 x10_1) x16_2), .int .u8 34] rfl oA ?_; (with_reducible refine (strings_IndexByte.calls (rdOf ByteArray.empty (rd_L5 l0 x10_1) x16_2) 34 t195 _ A14.out).mono ?_); rintro e w' ⟨rfl, ⟨nd, rfl⟩⟩; refine ⟨_, rfl, ?_⟩) | (go_at_call 62; (with_reducible refine (strings_IndexByte.calls (rdOf ByteArray.empty (rd_L5 l0 x10_1) x16_2) 44 t196 _ A16.out).mono ?_); rintro e w' ⟨rfl, ⟨nd, rfl⟩⟩) | (go_at_call 62; (with_reducible refine (strings_IndexByte.calls (rdOf ByteArray.empty (rd_L5 l0 x10_1) x16_2) 10 t197 _ A18.out).mono ?_); rintro e w' ⟨rfl, ⟨nd, rfl⟩⟩) | (go_at_call 62; (with_reducible refine (strings_IndexByte.calls (rdOf ByteArray.empty (rd_L5 l0 x10_1) x16_2) 13 t198 _ A20.out).mono ?_); rintro e w' ⟨rfl, ⟨nd, rfl⟩⟩))
              go_meet
              case rel => exact ⟨_, (true), oR, H', ⟨by have := HK1.out; have := HK2.out; have := HJ8.out; first | omega | exact Nat.le_refl _⟩, ⟨by (with_reducible repeat (first | apply Kd.B_alloc | apply Kd.B_drewN | apply Kd.B_drew)); exact HO_3.out⟩, ⟨fW HB.out⟩⟩
             ·rw [if_neg c21] at H
              have c21b0 := decide_eq_false c21
              clear c21
              by_cases c22 : (rdOf ByteArray.empty (rd_L5 l0 x10_1) x16_2).toList = ([] : List UInt8)
              ·rw [if_pos c22] at H
               have c22b0 := qL c22
               have c22b1 := nL c22
               clear c22
               have H' := Aside0.mk H
               clear H
               go_wp2_with (first | ((with_reducible refine gate_callee (f := 62) rfl ?_); refine goesL_ (some 25) rfl rfl Tryd.func62 (by kernel_rfl) rfl #[.string (rdOf ByteArray.empty (rd_L5 l0 x10_1) x16_2), .int .u8 34] rfl oA ?_; (with_reducible refine (strings_IndexByte.calls (rdOf ByteArray.empty (rd_L5 l0 x10_1) x16_2) 34 t195 _ A14.out).mono ?_); rintro e w' ⟨rfl, ⟨nd, rfl⟩⟩; refine ⟨_, rfl, ?_⟩) | (go_at_call 62; (with_reducible refine (strings_IndexByte.calls (rdOf ByteArray.empty (rd_L5 l0 x10_1) x16_2) 44 t196 _ A16.out).mono ?_); rintro e w' ⟨rfl, ⟨nd, rfl⟩⟩) | (go_at_call 62; (with_reducible refine (strings_IndexByte.calls (rdOf ByteArray.empty (rd_L5 l0 x10_1) x16_2) 10 t197 _ A18.out).mono ?_); rintro e w' ⟨rfl, ⟨nd, rfl⟩⟩) | (go_at_call 62; (with_reducible refine (strings_IndexByte.calls (rdOf ByteArray.empty (rd_L5 l0 x10_1) x16_2) 13 t198 _ A20.out).mono ?_); rintro e w' ⟨rfl, ⟨nd, rfl⟩⟩))
               go_meet
               case rel => exact ⟨_, ((((rd_L5 l0 x10_1).length : Int) == 1)), oR, H', ⟨by have := HK1.out; have := HK2.out; have := HJ8.out; first | omega | exact Nat.le_refl _⟩, ⟨by (with_reducible repeat (first | apply Kd.B_alloc | apply Kd.B_drewN | apply Kd.B_drew)); exact HO_3.out⟩, ⟨fW HB.out⟩⟩
              ·rw [if_neg c22] at H
               have c22b0 : ((rdOf ByteArray.empty (rd_L5 l0 x10_1) x16_2).toList == ([] : List UInt8)) = false := beq_eq_false_iff_ne.mpr c22
               have c22b1 : ((rdOf ByteArray.empty (rd_L5 l0 x10_1) x16_2).toList != ([] : List UInt8)) = true := bne_iff_ne.mpr c22
               have H' := Aside0.mk H
               clear H
               go_wp2_with (first | ((with_reducible refine gate_callee (f := 62) rfl ?_); refine goesL_ (some 25) rfl rfl Tryd.func62 (by kernel_rfl) rfl #[.string (rdOf ByteArray.empty (rd_L5 l0 x10_1) x16_2), .int .u8 34] rfl oA ?_; (with_reducible refine (strings_IndexByte.calls (rdOf ByteArray.empty (rd_L5 l0 x10_1) x16_2) 34 t195 _ A14.out).mono ?_); rintro e w' ⟨rfl, ⟨nd, rfl⟩⟩; refine ⟨_, rfl, ?_⟩) | (go_at_call 62; (with_reducible refine (strings_IndexByte.calls (rdOf ByteArray.empty (rd_L5 l0 x10_1) x16_2) 44 t196 _ A16.out).mono ?_); rintro e w' ⟨rfl, ⟨nd, rfl⟩⟩) | (go_at_call 62; (with_reducible refine (strings_IndexByte.calls (rdOf ByteArray.empty (rd_L5 l0 x10_1) x16_2) 10 t197 _ A18.out).mono ?_); rintro e w' ⟨rfl, ⟨nd, rfl⟩⟩) | (go_at_call 62; (with_reducible refine (strings_IndexByte.calls (rdOf ByteArray.empty (rd_L5 l0 x10_1) x16_2) 13 t198 _ A20.out).mono ?_); rintro e w' ⟨rfl, ⟨nd, rfl⟩⟩))
               go_meet
               case rel => exact ⟨_, (false), oR, H', ⟨by have := HK1.out; have := HK2.out; have := HJ8.out; first | omega | exact Nat.le_refl _⟩, ⟨by (with_reducible repeat (first | apply Kd.B_alloc | apply Kd.B_drewN | apply Kd.B_drew)); exact HO_3.out⟩, ⟨fW HB.out⟩⟩
         case rest =>
          clear HC13
          try clear c3; try clear c3b0; try clear c4; try clear c4b0; try clear c5; try clear c5b0; try clear c6; try clear c6b0; try clear c7; try clear c7b0; try clear c8; try clear c8b0; try clear c10; try clear c10b0; try clear c11; try clear c15; try clear c15b0; try clear c17; try clear c17b0; try clear c19; try clear c19b0; try clear c21; try clear c21b0; try clear c22; try clear c22b0; try clear c22b1; try clear hx187_0; try clear hx191_0; try clear p187; try clear p191; try clear q187; try clear q191
          obtain ⟨kq, x50_12, rfl, HA, HJ12, HO_3, HB⟩ := hcut
          cases kq with
          | zero => exact absurd HA.out (by simp [csvr_Print.j3])
          | succ kj12 =>
           have H := HA.out
           clear HA
           simp only [csvr_Print.j3] at H
           by_cases c23 : x50_12 = true
           ·subst c23
            replace H := iT H
            obtain ⟨t199, A240, H⟩ := bS H
            have A24 := Aside0.mk A240
            clear A240
            obtain ⟨c25, H⟩ := eT H
            have c25b0 := eq_true c25
            have c25b1 := decide_eq_true c25
            try have c25b2 : (9223372036854775807 < 1 + t199.size) = False := eq_false (Nat.not_lt.2 c25)
            obtain ⟨c26, H⟩ := eT H
            have c26b0 := eq_true c26
            have c26b1 := decide_eq_true c26
            try have c26b2 : (9223372036854775807 < 1 + t199.size + 1) = False := eq_false (Nat.not_lt.2 c26)
            obtain ⟨c27, H⟩ := eT H
            have LMc27 := Aside0.mk c27
            clear c27
            obtain ⟨y200, hy200⟩ : ∃ y_ : List Int, y_ = (x3_8 ++ bytesOf (((⟨#[34]⟩ : ByteArray) ++ t199) ++ (⟨#[34]⟩ : ByteArray))) := ⟨_, rfl⟩
            replace H : (csvr_Print.l1 kj12 y200 (rd_L5 l0 x10_1) l0 (l0.length : Int) x10_1 (rd_L5 l0 x10_1) ((rd_L5 l0 x10_1).length : Int) (wrap64 (x16_2 + 1))) = some r := by first | (rw [hy200]; with_reducible exact H) | (have H2_ := (Option.bind_some _ _).symm.trans H; rw [hy200]; with_reducible exact H2_) | (have H2_ := (Option.bind_some _ _).symm.trans H; with_reducible exact H2_) | with_reducible exact H | (rw [hy200]; exact H) | exact H
            have Ny200 := Aside0.mk hy200
            clear hy200
            have H' := Aside0.mk H
            clear H
            go_wp2_with (first | ((with_reducible refine gate_callee (f := 63) rfl ?_); refine goesL_ (some 52) rfl rfl Tryd.func63 (by kernel_rfl) rfl #[.string (rdOf ByteArray.empty (rd_L5 l0 x10_1) x16_2), .string (⟨#[34]⟩ : ByteArray), .string (⟨#[34, 34]⟩ : ByteArray)] rfl oA ?_; (with_reducible refine (strings_ReplaceAll.calls (rdOf ByteArray.empty (rd_L5 l0 x10_1) x16_2) (⟨#[34]⟩ : ByteArray) (⟨#[34, 34]⟩ : ByteArray) t199 _ ?side1 A24.out).mono ?_); (case side1 => exact XM.Tabs.below hMax (fW HB.out)); rintro e w28 ⟨rfl, hb⟩; refine ⟨_, rfl, ?_⟩; replace HO_3 := Aside0.mk (Kd.B_below (by (with_reducible repeat (first | apply Kd.B_alloc | apply Kd.B_drewN | apply Kd.B_drew)); exact HO_3.out) hb); replace HB := Aside0.mk (below_step (fW HB.out) hb); (try clear hb); (try clear hb2); (try clear hk); (try clear hi)) | ((with_reducible refine gate_callee (f := 64) rfl ?_); refine goesL_ (some 56) rfl rfl Tryd.func64 (by kernel_rfl) rfl #[.pointer (some ⟨gb178, 0, none⟩), .string (((⟨#[34]⟩ : ByteArray) ++ t199) ++ (⟨#[34]⟩ : ByteArray))] rfl (by (try simp only [List.map_toArray, List.map_cons, List.map_nil]); first | done | rfl) ?_; (with_reducible refine (strings_Builder_WriteString.calls (d := Kd.int .u8) (v := .pointer (some ⟨gb178, 0, none⟩)) (x := x3_8) (w0 := w) (ok' := (fun k_ => (w.heap.size ≤ k_))) (fun k_ => (w.heap.size ≤ k_)) (fun k_ hk => by first | exact trivial | exact hk) (((⟨#[34]⟩ : ByteArray) ++ t199) ++ (⟨#[34]⟩ : ByteArray)) (by have h_ := LMc27.out; have e_ : (((⟨#[34]⟩ : ByteArray) ++ t199) ++ (⟨#[34]⟩ : ByteArray)).size = 1 + t199.size + 1 := (by first | rfl | (simp only [ByteArray.size_append, Kd.szL, List.length_cons, List.length_nil, Nat.zero_add, Nat.reduceAdd])); rw [e_]; omega) ?side1 ?side2 ?side3).mono ?_); (case side1 => exact (by (with_reducible repeat (first | apply Kd.B_alloc | apply Kd.B_drewN | apply Kd.B_drew)); exact HO_3.out)); (case side2 => exact (fW HB.out)); (case side3 => exact (below_size (fW HB.out))); rintro e w29 ⟨rfl, ho, hb, hw⟩; refine ⟨_, rfl, ?_⟩; rw [← Ny200.out] at ho; replace HB := Aside0.mk (hb); have HO202 := Aside0.mk (ho); clear HO_3; clear ho hb hw))
            go_roundg kj12
            case measure => have := HK1.out; have := HK2.out; have := HJ8.out; have := HJ12.out; omega
            case rel => exact ⟨(y200), (wrap64 (x16_2 + 1)), oR, H', ⟨by have := HK1.out; have := HK2.out; have := HJ8.out; have := HJ12.out; omega⟩, ⟨by (with_reducible repeat (first | apply Kd.B_alloc | apply Kd.B_drewN | apply Kd.B_drew)); exact HO202.out⟩, ⟨fW HB.out⟩⟩
           ·replace c23 := Bool.eq_false_iff.mpr c23
            subst c23
            replace H := iF H
            obtain ⟨c30, H⟩ := eT H
            have LMc30 := Aside0.mk c30
            clear c30
            obtain ⟨y203, hy203⟩ : ∃ y_ : List Int, y_ = (x3_8 ++ bytesOf (rdOf ByteArray.empty (rd_L5 l0 x10_1) x16_2)) := ⟨_, rfl⟩
            replace H : (csvr_Print.l1 kj12 y203 (rd_L5 l0 x10_1) l0 (l0.length : Int) x10_1 (rd_L5 l0 x10_1) ((rd_L5 l0 x10_1).length : Int) (wrap64 (x16_2 + 1))) = some r := by first | (rw [hy203]; with_reducible exact H) | (have H2_ := (Option.bind_some _ _).symm.trans H; rw [hy203]; with_reducible exact H2_) | (have H2_ := (Option.bind_some _ _).symm.trans H; with_reducible exact H2_) | with_reducible exact H | (rw [hy203]; exact H) | exact H
            have Ny203 := Aside0.mk hy203
            clear hy203
            have H' := Aside0.mk H
            clear H
            go_wp2_with (first | ((with_reducible refine gate_callee (f := 64) rfl ?_); refine goesL_ (some 56) rfl rfl Tryd.func64 (by kernel_rfl) rfl #[.pointer (some ⟨gb178, 0, none⟩), .string (rdOf ByteArray.empty (rd_L5 l0 x10_1) x16_2)] rfl (by (try simp only [List.map_toArray, List.map_cons, List.map_nil]); first | done | rfl) ?_; (with_reducible refine (strings_Builder_WriteString.calls (d := Kd.int .u8) (v := .pointer (some ⟨gb178, 0, none⟩)) (x := x3_8) (w0 := w) (ok' := (fun k_ => (w.heap.size ≤ k_))) (fun k_ => (w.heap.size ≤ k_)) (fun k_ hk => by first | exact trivial | exact hk) (rdOf ByteArray.empty (rd_L5 l0 x10_1) x16_2) (by have h_ := LMc30.out; have e_ : (rdOf ByteArray.empty (rd_L5 l0 x10_1) x16_2).size = (rdOf ByteArray.empty (rd_L5 l0 x10_1) x16_2).size := (by first | rfl | (simp only [ByteArray.size_append, Kd.szL, List.length_cons, List.length_nil, Nat.zero_add, Nat.reduceAdd])); rw [e_]; omega) ?side1 ?side2 ?side3).mono ?_); (case side1 => exact (by (with_reducible repeat (first | apply Kd.B_alloc | apply Kd.B_drewN | apply Kd.B_drew)); exact HO_3.out)); (case side2 => exact (fW HB.out)); (case side3 => exact (below_size (fW HB.out))); rintro e w31 ⟨rfl, ho, hb, hw⟩; refine ⟨_, rfl, ?_⟩; rw [← Ny203.out] at ho; replace HB := Aside0.mk (hb); have HO205 := Aside0.mk (ho); clear HO_3; clear ho hb hw))
            go_roundg kj12
            case measure => have := HK1.out; have := HK2.out; have := HJ8.out; have := HJ12.out; omega
            case rel => exact ⟨(y203), (wrap64 (x16_2 + 1)), oR, H', ⟨by have := HK1.out; have := HK2.out; have := HJ8.out; have := HJ12.out; omega⟩, ⟨by (with_reducible repeat (first | apply Kd.B_alloc | apply Kd.B_drewN | apply Kd.B_drew)); exact HO205.out⟩, ⟨fW HB.out⟩⟩
      ·rw [if_neg c6] at H
       have c6b0 := decide_eq_false c6
       clear c6
       obtain ⟨c32, H⟩ := eT H
       have LMc32 := Aside0.mk c32
       clear c32
       obtain ⟨y188, hy188⟩ : ∃ y_ : List Int, y_ = (x3_2 ++ [10]) := ⟨_, rfl⟩
       replace H : (csvr_Print.l0 k2 y188 l0 (l0.length : Int) (wrap64 (x10_1 + 1))) = some r := by first | (rw [hy188]; with_reducible exact H) | (have H2_ := (Option.bind_some _ _).symm.trans H; rw [hy188]; with_reducible exact H2_) | (have H2_ := (Option.bind_some _ _).symm.trans H; with_reducible exact H2_) | with_reducible exact H | (rw [hy188]; exact H) | exact H
       have Ny188 := Aside0.mk hy188
       clear hy188
       have H' := Aside0.mk H
       clear H
       go_wp2_with (first | ((with_reducible refine gate_callee (f := 61) rfl ?_); refine goesL_ (some 58) rfl rfl Tryd.func61 (by kernel_rfl) rfl #[.pointer (some ⟨gb178, 0, none⟩), .int .u8 10] rfl (by (try simp only [List.map_toArray, List.map_cons, List.map_nil]); first | done | rfl) ?_; (with_reducible refine (strings_Builder_WriteByte.calls (d := Kd.int .u8) (v := .pointer (some ⟨gb178, 0, none⟩)) (x := x3_2) (w0 := w) (ok' := (fun k_ => (w.heap.size ≤ k_))) (fun k_ => (w.heap.size ≤ k_)) (fun k_ hk => by first | exact trivial | exact hk) 10 ⟨by decide, by decide⟩ (by have := LMc32.out; omega) ?side1 ?side2 ?side3).mono ?_); (case side1 => exact (by (with_reducible repeat (first | apply Kd.B_alloc | apply Kd.B_drewN | apply Kd.B_drew)); exact HO_3.out)); (case side2 => exact (fW HB.out)); (case side3 => exact (below_size (fW HB.out))); rintro e w33 ⟨rfl, ho, hb, hw⟩; refine ⟨_, rfl, ?_⟩; rw [← Ny188.out] at ho; replace HB := Aside0.mk (hb); have HO190 := Aside0.mk (ho); clear HO_3; clear ho hb hw))
       go_roundg k2
       case measure => have := HK1.out; have := HK2.out; omega
       case rel => exact ⟨(y188), (wrap64 (x10_1 + 1)), oR, H', ⟨by have := HK1.out; have := HK2.out; omega⟩, ⟨by (with_reducible repeat (first | apply Kd.B_alloc | apply Kd.B_drewN | apply Kd.B_drew)); exact HO190.out⟩, ⟨fW HB.out⟩⟩
   ·rw [if_neg c3] at H
    have c3b0 := decide_eq_false c3
    clear c3
    obtain ⟨y181, hy181⟩ : ∃ y_ : List Int, y_ = (x3_1) := ⟨_, rfl⟩
    replace H : (if (strOfNums x3_1).size ≤ 9223372036854775807 then (some (bytesOf (strOfNums x3_1))) else (none)) = some r := by first | (rw [hy181]; with_reducible exact H) | (have H2_ := (Option.bind_some _ _).symm.trans H; rw [hy181]; with_reducible exact H2_) | (have H2_ := (Option.bind_some _ _).symm.trans H; with_reducible exact H2_) | with_reducible exact H | (rw [hy181]; exact H) | exact H
    have Ny181 := Aside0.mk hy181
    clear hy181
    obtain ⟨c34, H⟩ := eT H
    have c34b0 := eq_true c34
    have c34b1 := decide_eq_true c34
    try have c34b2 : (9223372036854775807 < (strOfNums x3_1).size) = False := eq_false (Nat.not_lt.2 c34)
    clear c34
    obtain ⟨y184, hy184⟩ : ∃ y_ : List Int, y_ = (bytesOf (strOfNums x3_1)) := ⟨_, rfl⟩
    replace H : (some y184) = some r := by first | (rw [hy184]; with_reducible exact H) | (have H2_ := (Option.bind_some _ _).symm.trans H; rw [hy184]; with_reducible exact H2_) | (have H2_ := (Option.bind_some _ _).symm.trans H; with_reducible exact H2_) | with_reducible exact H | (rw [hy184]; exact H) | exact H
    have Ny184 := Aside0.mk hy184
    clear hy184
    obtain rfl := Option.some.inj H
    go_wp2_with (first | ((with_reducible refine gate_callee (f := 65) rfl ?_); refine goesL_ (some 60) rfl rfl Tryd.func65 (by kernel_rfl) rfl #[.pointer (some ⟨gb178, 0, none⟩)] rfl (by (try simp only [List.map_toArray, List.map_cons, List.map_nil]); first | done | rfl) ?_; (with_reducible refine (strings_Builder_String.calls (d := Kd.int .u8) (v := .pointer (some ⟨gb178, 0, none⟩)) (x := x3_1) (w0 := w) (ok' := (fun k_ => (w.heap.size ≤ k_))) (fun k_ => (w.heap.size ≤ k_)) (fun k_ hk => by first | exact trivial | exact hk) ?side1 ?side2 ?side3).mono ?_); (case side1 => exact (by (with_reducible repeat (first | apply Kd.B_alloc | apply Kd.B_drewN | apply Kd.B_drew)); exact HO_3.out)); (case side2 => exact (fW HB.out)); (case side3 => exact (below_size (fW HB.out))); rintro e w35 ⟨rfl, ho, hb, hw⟩; refine ⟨_, rfl, ?_⟩; rw [← Ny181.out] at ho; replace HB := Aside0.mk (hb); have HO183 := Aside0.mk (ho); clear HO_3; clear ho hb hw) | ((with_reducible refine gate_dst (N := 61) rfl ?_); (try (refine gate_guard (by rfl) ?_; dsimp only)); refine XW.V_bytes _ 5 rfl (N := 61) rfl 9 35 _ rfl (strOfNums x3_1) rfl Tryd.underlying9 Tryd.underlying35 Tryd.underlying5 (by have h_ : (strOfNums x3_1).size ≤ 9223372036854775807 := oD; first | exact h_ | (simp only [ByteArray.size_append]; exact h_)) (ok := (fun k_ => (w.heap.size ≤ k_))) (fun k_ hk => (Nat.le_trans (below_size (fW HB.out)) hk)) (Below.refl _ _) (Nat.le_refl _) ?_; intro v185 w36 ho37 hb hg_ hnew_; clear hg_ hnew_; (first | rw [← Ny184.out] at ho37 | (simp only [Int.reduceToNat] at ho37; rw [← Ny184.out] at ho37)); replace HO183 := Aside0.mk (Kd.B_below (by (with_reducible repeat (first | apply Kd.B_alloc | apply Kd.B_drewN | apply Kd.B_drew)); exact HO183.out) hb); have HO186 := Aside0.mk (Kd.V_lower ho37 (below_size (fW HB.out))); replace HB := Aside0.mk (below_step (fW HB.out) hb); clear hb ho37))
    go_ret
    exact ⟨_, oE, fV HO186.out, fW HB.out⟩

/-! ### glebelaw9_awake: function 34 -/
def glebelaw9_awake.f (k : Nat)  : Option (Bool) := (csvr_Parse.f k (([97, 44, 34, 98, 34, 34, 99, 34, 13, 10, 44, 10] : List Int))).bind fun bt209 => ((csvr_Parse.f k (([97, 44, 34, 98] : List Int))).bind fun bt218 => ((csvr_Parse.f k (([97, 34, 98] : List Int))).bind fun bt227 => ((csvr_Print.f k (([(([(⟨#[97]⟩ : ByteArray), (⟨#[98, 44, 99]⟩ : ByteArray)] : List ByteArray)), (([(⟨#[]⟩ : ByteArray)] : List ByteArray))] : List (List ByteArray)))).bind fun t242 => (if (bt209.2.1 == 0 && (bt209.2.2 == 0)) = true then (if (bt209.1.length : Int) = 2 then (if 0 < (bt209.1.length : Int) then (if ((rd_L4 bt209.1 0).length : Int) = 2 then (if 1 < ((rd_L4 bt209.1 0).length : Int) then (if ((rd_T59 (rd_L4 bt209.1 0) 1).f1).toList = ([98, 34, 99] : List UInt8) then (if ((rd_T59 (rd_L4 bt209.1 0) 1).f2) = 2 then (if 1 < (bt209.1.length : Int) then (if ((rd_L4 bt209.1 1).length : Int) = 2 then (if 1 < ((rd_L4 bt209.1 1).length : Int) then (if ((rd_T59 (rd_L4 bt209.1 1) 1).f2) = 11 then (if (bt218.2.1 == 1 && (bt218.2.2 == 4)) = true then (if (bt227.2.1 == 1 && (bt227.2.2 == 1)) = true then (some ((strOfNums t242).toList == ([97, 44, 34, 98, 44, 99, 34, 10, 34, 34, 10] : List UInt8))) else (none)) else (none)) else (none)) else (none)) else (none)) else (none)) else (none)) else (none)) else (none)) else (none)) else (none)) else (none)) else (none)))))
theorem glebelaw9_awake.mono : ∀ k, LeO (glebelaw9_awake.f k ) (glebelaw9_awake.f (k + 1) ) := by
 intro  k
 unfold glebelaw9_awake.f
 repeat' first
   | (with_reducible first | exact csvr_Parse.mono _ _ | exact csvr_Print.mono _ _ | exact LeO.refl _ | exact LeO.none _ | refine LeO.ite ?_ ?_ | refine LeO.bind ?_ (fun _ => ?_))
   | exact csvr_Parse.mono _ _
   | exact csvr_Print.mono _ _
   | exact LeO.none _
   | refine LeO.ite ?_ ?_
   | refine LeO.bind ?_ (fun _ => ?_)
set_option maxHeartbeats 8000000 in
set_option maxRecDepth 100000 in
theorem glebelaw9_awake.calls (k : Nat)  (r : Bool) (w : World) (hMax : XM.Tabs w) (h : glebelaw9_awake.f k  = some r) :
  Calls Tryd.prog 34 #[] w fun e w' => e = .returned (.bool r) ∧ Below w.heap.size w w' := by
 have hu54 := Tryd.underlying54
 have HB := Aside0.mk (Below.refl w.heap.size w)
 have H : ((csvr_Parse.f k (([97, 44, 34, 98, 34, 34, 99, 34, 13, 10, 44, 10] : List Int))).bind fun bt209 => ((csvr_Parse.f k (([97, 44, 34, 98] : List Int))).bind fun bt218 => ((csvr_Parse.f k (([97, 34, 98] : List Int))).bind fun bt227 => ((csvr_Print.f k (([(([(⟨#[97]⟩ : ByteArray), (⟨#[98, 44, 99]⟩ : ByteArray)] : List ByteArray)), (([(⟨#[]⟩ : ByteArray)] : List ByteArray))] : List (List ByteArray)))).bind fun t242 => (if (bt209.2.1 == 0 && (bt209.2.2 == 0)) = true then (if (bt209.1.length : Int) = 2 then (if 0 < (bt209.1.length : Int) then (if ((rd_L4 bt209.1 0).length : Int) = 2 then (if 1 < ((rd_L4 bt209.1 0).length : Int) then (if ((rd_T59 (rd_L4 bt209.1 0) 1).f1).toList = ([98, 34, 99] : List UInt8) then (if ((rd_T59 (rd_L4 bt209.1 0) 1).f2) = 2 then (if 1 < (bt209.1.length : Int) then (if ((rd_L4 bt209.1 1).length : Int) = 2 then (if 1 < ((rd_L4 bt209.1 1).length : Int) then (if ((rd_T59 (rd_L4 bt209.1 1) 1).f2) = 11 then (if (bt218.2.1 == 1 && (bt218.2.2 == 4)) = true then (if (bt227.2.1 == 1 && (bt227.2.2 == 1)) = true then (some ((strOfNums t242).toList == ([97, 44, 34, 98, 44, 99, 34, 10, 34, 34, 10] : List UInt8))) else (none)) else (none)) else (none)) else (none)) else (none)) else (none)) else (none)) else (none)) else (none)) else (none)) else (none)) else (none)) else (none)))))) = some r := h
 clear h
 obtain ⟨y206, hy206⟩ : ∃ y_ : List Int, y_ = (([97, 44, 34, 98, 34, 34, 99, 34, 13, 10, 44, 10] : List Int)) := ⟨_, rfl⟩
 replace H : ((csvr_Parse.f k y206).bind fun bt209 => ((csvr_Parse.f k (([97, 44, 34, 98] : List Int))).bind fun bt218 => ((csvr_Parse.f k (([97, 34, 98] : List Int))).bind fun bt227 => ((csvr_Print.f k (([(([(⟨#[97]⟩ : ByteArray), (⟨#[98, 44, 99]⟩ : ByteArray)] : List ByteArray)), (([(⟨#[]⟩ : ByteArray)] : List ByteArray))] : List (List ByteArray)))).bind fun t242 => (if (bt209.2.1 == 0 && (bt209.2.2 == 0)) = true then (if (bt209.1.length : Int) = 2 then (if 0 < (bt209.1.length : Int) then (if ((rd_L4 bt209.1 0).length : Int) = 2 then (if 1 < ((rd_L4 bt209.1 0).length : Int) then (if ((rd_T59 (rd_L4 bt209.1 0) 1).f1).toList = ([98, 34, 99] : List UInt8) then (if ((rd_T59 (rd_L4 bt209.1 0) 1).f2) = 2 then (if 1 < (bt209.1.length : Int) then (if ((rd_L4 bt209.1 1).length : Int) = 2 then (if 1 < ((rd_L4 bt209.1 1).length : Int) then (if ((rd_T59 (rd_L4 bt209.1 1) 1).f2) = 11 then (if (bt218.2.1 == 1 && (bt218.2.2 == 4)) = true then (if (bt227.2.1 == 1 && (bt227.2.2 == 1)) = true then (some ((strOfNums t242).toList == ([97, 44, 34, 98, 44, 99, 34, 10, 34, 34, 10] : List UInt8))) else (none)) else (none)) else (none)) else (none)) else (none)) else (none)) else (none)) else (none)) else (none)) else (none)) else (none)) else (none)) else (none)))))) = some r := by first | (rw [hy206]; with_reducible exact H) | (have H2_ := (Option.bind_some _ _).symm.trans H; rw [hy206]; with_reducible exact H2_) | (have H2_ := (Option.bind_some _ _).symm.trans H; with_reducible exact H2_) | with_reducible exact H | (rw [hy206]; exact H) | exact H
 have Ny206 := Aside0.mk hy206
 clear hy206
 obtain ⟨⟨t209, t212, t213⟩, A10, H⟩ := bS H
 dsimp only at H
 have A1 := Aside0.mk A10
 clear A10
 obtain ⟨y215, hy215⟩ : ∃ y_ : List Int, y_ = (([97, 44, 34, 98] : List Int)) := ⟨_, rfl⟩
 replace H : ((csvr_Parse.f k y215).bind fun bt218 => ((csvr_Parse.f k (([97, 34, 98] : List Int))).bind fun bt227 => ((csvr_Print.f k (([(([(⟨#[97]⟩ : ByteArray), (⟨#[98, 44, 99]⟩ : ByteArray)] : List ByteArray)), (([(⟨#[]⟩ : ByteArray)] : List ByteArray))] : List (List ByteArray)))).bind fun t242 => (if (t212 == 0 && (t213 == 0)) = true then (if (t209.length : Int) = 2 then (if 0 < (t209.length : Int) then (if ((rd_L4 t209 0).length : Int) = 2 then (if 1 < ((rd_L4 t209 0).length : Int) then (if ((rd_T59 (rd_L4 t209 0) 1).f1).toList = ([98, 34, 99] : List UInt8) then (if ((rd_T59 (rd_L4 t209 0) 1).f2) = 2 then (if 1 < (t209.length : Int) then (if ((rd_L4 t209 1).length : Int) = 2 then (if 1 < ((rd_L4 t209 1).length : Int) then (if ((rd_T59 (rd_L4 t209 1) 1).f2) = 11 then (if (bt218.2.1 == 1 && (bt218.2.2 == 4)) = true then (if (bt227.2.1 == 1 && (bt227.2.2 == 1)) = true then (some ((strOfNums t242).toList == ([97, 44, 34, 98, 44, 99, 34, 10, 34, 34, 10] : List UInt8))) else (none)) else (none)) else (none)) else (none)) else (none)) else (none)) else (none)) else (none)) else (none)) else (none)) else (none)) else (none)) else (none))))) = some r := by first | (rw [hy215]; with_reducible exact H) | (have H2_ := (Option.bind_some _ _).symm.trans H; rw [hy215]; with_reducible exact H2_) | (have H2_ := (Option.bind_some _ _).symm.trans H; with_reducible exact H2_) | with_reducible exact H | (rw [hy215]; exact H) | exact H
 have Ny215 := Aside0.mk hy215
 clear hy215
 obtain ⟨⟨t218, t221, t222⟩, A20, H⟩ := bS H
 dsimp only at H
 have A2 := Aside0.mk A20
 clear A20
 obtain ⟨y224, hy224⟩ : ∃ y_ : List Int, y_ = (([97, 34, 98] : List Int)) := ⟨_, rfl⟩
 replace H : ((csvr_Parse.f k y224).bind fun bt227 => ((csvr_Print.f k (([(([(⟨#[97]⟩ : ByteArray), (⟨#[98, 44, 99]⟩ : ByteArray)] : List ByteArray)), (([(⟨#[]⟩ : ByteArray)] : List ByteArray))] : List (List ByteArray)))).bind fun t242 => (if (t212 == 0 && (t213 == 0)) = true then (if (t209.length : Int) = 2 then (if 0 < (t209.length : Int) then (if ((rd_L4 t209 0).length : Int) = 2 then (if 1 < ((rd_L4 t209 0).length : Int) then (if ((rd_T59 (rd_L4 t209 0) 1).f1).toList = ([98, 34, 99] : List UInt8) then (if ((rd_T59 (rd_L4 t209 0) 1).f2) = 2 then (if 1 < (t209.length : Int) then (if ((rd_L4 t209 1).length : Int) = 2 then (if 1 < ((rd_L4 t209 1).length : Int) then (if ((rd_T59 (rd_L4 t209 1) 1).f2) = 11 then (if (t221 == 1 && (t222 == 4)) = true then (if (bt227.2.1 == 1 && (bt227.2.2 == 1)) = true then (some ((strOfNums t242).toList == ([97, 44, 34, 98, 44, 99, 34, 10, 34, 34, 10] : List UInt8))) else (none)) else (none)) else (none)) else (none)) else (none)) else (none)) else (none)) else (none)) else (none)) else (none)) else (none)) else (none)) else (none)))) = some r := by first | (rw [hy224]; with_reducible exact H) | (have H2_ := (Option.bind_some _ _).symm.trans H; rw [hy224]; with_reducible exact H2_) | (have H2_ := (Option.bind_some _ _).symm.trans H; with_reducible exact H2_) | with_reducible exact H | (rw [hy224]; exact H) | exact H
 have Ny224 := Aside0.mk hy224
 clear hy224
 obtain ⟨⟨t227, t230, t231⟩, A30, H⟩ := bS H
 dsimp only at H
 have A3 := Aside0.mk A30
 clear A30
 obtain ⟨y233, hy233⟩ : ∃ y_ : List ByteArray, y_ = (([(⟨#[97]⟩ : ByteArray), (⟨#[98, 44, 99]⟩ : ByteArray)] : List ByteArray)) := ⟨_, rfl⟩
 replace H : ((csvr_Print.f k (([y233, (([(⟨#[]⟩ : ByteArray)] : List ByteArray))] : List (List ByteArray)))).bind fun t242 => (if (t212 == 0 && (t213 == 0)) = true then (if (t209.length : Int) = 2 then (if 0 < (t209.length : Int) then (if ((rd_L4 t209 0).length : Int) = 2 then (if 1 < ((rd_L4 t209 0).length : Int) then (if ((rd_T59 (rd_L4 t209 0) 1).f1).toList = ([98, 34, 99] : List UInt8) then (if ((rd_T59 (rd_L4 t209 0) 1).f2) = 2 then (if 1 < (t209.length : Int) then (if ((rd_L4 t209 1).length : Int) = 2 then (if 1 < ((rd_L4 t209 1).length : Int) then (if ((rd_T59 (rd_L4 t209 1) 1).f2) = 11 then (if (t221 == 1 && (t222 == 4)) = true then (if (t230 == 1 && (t231 == 1)) = true then (some ((strOfNums t242).toList == ([97, 44, 34, 98, 44, 99, 34, 10, 34, 34, 10] : List UInt8))) else (none)) else (none)) else (none)) else (none)) else (none)) else (none)) else (none)) else (none)) else (none)) else (none)) else (none)) else (none)) else (none))) = some r := by first | (rw [hy233]; with_reducible exact H) | (have H2_ := (Option.bind_some _ _).symm.trans H; rw [hy233]; with_reducible exact H2_) | (have H2_ := (Option.bind_some _ _).symm.trans H; with_reducible exact H2_) | with_reducible exact H | (rw [hy233]; exact H) | exact H
 have Ny233 := Aside0.mk hy233
 clear hy233
 obtain ⟨y236, hy236⟩ : ∃ y_ : List ByteArray, y_ = (([(⟨#[]⟩ : ByteArray)] : List ByteArray)) := ⟨_, rfl⟩
 replace H : ((csvr_Print.f k (([y233, y236] : List (List ByteArray)))).bind fun t242 => (if (t212 == 0 && (t213 == 0)) = true then (if (t209.length : Int) = 2 then (if 0 < (t209.length : Int) then (if ((rd_L4 t209 0).length : Int) = 2 then (if 1 < ((rd_L4 t209 0).length : Int) then (if ((rd_T59 (rd_L4 t209 0) 1).f1).toList = ([98, 34, 99] : List UInt8) then (if ((rd_T59 (rd_L4 t209 0) 1).f2) = 2 then (if 1 < (t209.length : Int) then (if ((rd_L4 t209 1).length : Int) = 2 then (if 1 < ((rd_L4 t209 1).length : Int) then (if ((rd_T59 (rd_L4 t209 1) 1).f2) = 11 then (if (t221 == 1 && (t222 == 4)) = true then (if (t230 == 1 && (t231 == 1)) = true then (some ((strOfNums t242).toList == ([97, 44, 34, 98, 44, 99, 34, 10, 34, 34, 10] : List UInt8))) else (none)) else (none)) else (none)) else (none)) else (none)) else (none)) else (none)) else (none)) else (none)) else (none)) else (none)) else (none)) else (none))) = some r := by first | (rw [hy236]; with_reducible exact H) | (have H2_ := (Option.bind_some _ _).symm.trans H; rw [hy236]; with_reducible exact H2_) | (have H2_ := (Option.bind_some _ _).symm.trans H; with_reducible exact H2_) | with_reducible exact H | (rw [hy236]; exact H) | exact H
 have Ny236 := Aside0.mk hy236
 clear hy236
 obtain ⟨y239, hy239⟩ : ∃ y_ : List (List ByteArray), y_ = (([y233, y236] : List (List ByteArray))) := ⟨_, rfl⟩
 replace H : ((csvr_Print.f k y239).bind fun t242 => (if (t212 == 0 && (t213 == 0)) = true then (if (t209.length : Int) = 2 then (if 0 < (t209.length : Int) then (if ((rd_L4 t209 0).length : Int) = 2 then (if 1 < ((rd_L4 t209 0).length : Int) then (if ((rd_T59 (rd_L4 t209 0) 1).f1).toList = ([98, 34, 99] : List UInt8) then (if ((rd_T59 (rd_L4 t209 0) 1).f2) = 2 then (if 1 < (t209.length : Int) then (if ((rd_L4 t209 1).length : Int) = 2 then (if 1 < ((rd_L4 t209 1).length : Int) then (if ((rd_T59 (rd_L4 t209 1) 1).f2) = 11 then (if (t221 == 1 && (t222 == 4)) = true then (if (t230 == 1 && (t231 == 1)) = true then (some ((strOfNums t242).toList == ([97, 44, 34, 98, 44, 99, 34, 10, 34, 34, 10] : List UInt8))) else (none)) else (none)) else (none)) else (none)) else (none)) else (none)) else (none)) else (none)) else (none)) else (none)) else (none)) else (none)) else (none))) = some r := by first | (rw [hy239]; with_reducible exact H) | (have H2_ := (Option.bind_some _ _).symm.trans H; rw [hy239]; with_reducible exact H2_) | (have H2_ := (Option.bind_some _ _).symm.trans H; with_reducible exact H2_) | with_reducible exact H | (rw [hy239]; exact H) | exact H
 have Ny239 := Aside0.mk hy239
 clear hy239
 obtain ⟨t242, A40, H⟩ := bS H
 have A4 := Aside0.mk A40
 clear A40
 obtain ⟨c5, H⟩ := eT H
 have c5b0 : (t212 == 0 && (t213 == 0)) = true := c5
 (try (have c5b1 : decide (t212 = 0 && (t213 == 0)) = true := by simpa using c5))
 (try (have c5b2 : (t212 == 0 && (t213 == 0)) = true := by simpa using c5))
 clear c5
 obtain ⟨c6, H⟩ := eT H
 have c6b0 := qT c6
 have c6b1 := nF c6
 clear c6
 obtain ⟨c7, H⟩ := eT H
 have c7b0 := decide_eq_true c7
 have c7b1 : decide (0 < t209.length) = true := decide_eq_true (by omega)
 clear c7
 obtain ⟨c8, H⟩ := eT H
 have c8b0 := qT c8
 have c8b1 := nF c8
 clear c8
 obtain ⟨c9, H⟩ := eT H
 have c9b0 := decide_eq_true c9
 have c9b1 : decide (1 < (rd_L4 t209 0).length) = true := decide_eq_true (by omega)
 clear c9
 obtain ⟨c10, H⟩ := eT H
 have c10b0 := qL c10
 have c10b1 := nL c10
 clear c10
 obtain ⟨c11, H⟩ := eT H
 have c11b0 := qT c11
 have c11b1 := nF c11
 clear c11
 obtain ⟨c12, H⟩ := eT H
 have c12b0 := decide_eq_true c12
 have c12b1 : decide (1 < t209.length) = true := decide_eq_true (by omega)
 clear c12
 obtain ⟨c13, H⟩ := eT H
 have c13b0 := qT c13
 have c13b1 := nF c13
 clear c13
 obtain ⟨c14, H⟩ := eT H
 have c14b0 := decide_eq_true c14
 have c14b1 : decide (1 < (rd_L4 t209 1).length) = true := decide_eq_true (by omega)
 clear c14
 obtain ⟨c15, H⟩ := eT H
 have c15b0 := qT c15
 have c15b1 := nF c15
 clear c15
 obtain ⟨c16, H⟩ := eT H
 have c16b0 : (t221 == 1 && (t222 == 4)) = true := c16
 (try (have c16b1 : decide (t221 = 1 && (t222 == 4)) = true := by simpa using c16))
 (try (have c16b2 : (t221 == 1 && (t222 == 4)) = true := by simpa using c16))
 clear c16
 obtain ⟨c17, H⟩ := eT H
 have c17b0 : (t230 == 1 && (t231 == 1)) = true := c17
 (try (have c17b1 : decide (t230 = 1 && (t231 == 1)) = true := by simpa using c17))
 (try (have c17b2 : (t230 == 1 && (t231 == 1)) = true := by simpa using c17))
 clear c17
 obtain rfl := Option.some.inj H
 go_enter Tryd.func34, Tryd.ntmps34
 go_wp2_with (first | ((with_reducible refine gate_dst (N := 10) rfl ?_); (try (refine gate_guard (by rfl) ?_; dsimp only)); refine XW.V_const _ 5 rfl (N := 10) rfl 35 _ rfl (xs := [97, 44, 34, 98, 34, 34, 99, 34, 13, 10, 44, 10]) rfl rfl (by first | rfl | (simp; done)) (by decide) Tryd.underlying35 Tryd.underlying5 (ok := (fun _ => True)) (fun k_ hk => trivial) (Below.refl _ _) (Nat.le_refl _) ?_; intro v207 w18 ho19 hb hg_ hnew_; clear hg_ hnew_; (first | rw [← Ny206.out] at ho19 | (simp only [Int.reduceToNat] at ho19; rw [← Ny206.out] at ho19)); have HO208 := Aside0.mk (Kd.V_lower ho19 (below_size (fW HB.out))); replace HB := Aside0.mk (below_step (fW HB.out) hb); clear hb ho19; obtain ⟨Ao20, co20, eo20⟩ := Kd.V_slice HO208.out; subst eo20) | ((with_reducible refine gate_callee (f := 33) rfl ?_); refine goesL_ (some 11) rfl rfl Tryd.func33 (by kernel_rfl) rfl #[.slice Ao20 y206.length co20] rfl oA ?_; (with_reducible refine (csvr_Parse.calls k _ _ y206 t209 t212 t213 _ ?side1 ?side2 A1.out).mono ?_); (case side1 => repeat (first | exact (Kd.V_reads' HO208.out).2.2 | (with_reducible refine Kd.C_alloc ?_ _) | (with_reducible refine Kd.C_drewN ?_ _) | (with_reducible refine Kd.C_drew ?_))); (case side2 => exact (Kd.V_reads' HO208.out).2.1); rintro e w21 ⟨v210, rfl, ho0, hb⟩; refine ⟨_, rfl, ?_⟩; replace HO208 := Aside0.mk (Kd.V_elder' (fV HO208.out) (Kd.S_base ho0) hb); have HO211 := Aside0.mk (Kd.N_lower (Kd.N_mono (ok' := fun k_ => True) (Kd.S_N (Kd.S_bound ho0)) (fun k_ hk_ => trivial)) (below_size (fW HB.out))); replace HB := Aside0.mk (below_step (fW HB.out) hb); (try clear hb); (try clear hb2); (try clear hk); (try clear hi); (try clear ho0)) | ((with_reducible refine gate_dst (N := 2) rfl ?_); (try (refine gate_guard (by rfl) ?_; dsimp only)); refine bE (N := 2) (cs := #[.int .i64 0, .int .i64 0]) (t := 54) (h := ?_); intro gb214 hg w22 hbox hb; replace HO208 := Aside0.mk (Kd.V_below (Kd.V_elderB (fV HO208.out) gb214 (Nat.le_of_eq hg.symm)) hb); replace HO211 := Aside0.mk (Kd.N_below (Kd.N_elderB (fN HO211.out) gb214 (Nat.le_of_eq hg.symm)) hb); have BK214 := Aside0.mk (hbox); have GW214 := Aside0.mk (gE hg (fW HB.out)); have GE214 := GW214; replace HB := Aside0.mk (below_step (fW HB.out) hb); clear hb hbox hg; have hcz23_0 : w22.cell? ⟨gb214, 0, none⟩ = some (.int .i64 0) := (blk_cell BK214.out 0).trans rfl; have hcz23_1 : w22.cell? ⟨gb214, 1, none⟩ = some (.int .i64 0) := (blk_cell BK214.out 1).trans rfl; have hfz23_0 := blk_frozen BK214.out 0; have hfz23_1 := blk_frozen BK214.out 1) | ((with_reducible refine gate_dst (N := 16) rfl ?_); (try (refine gate_guard (by rfl) ?_; dsimp only)); refine XW.V_const _ 5 rfl (N := 16) rfl 35 _ rfl (xs := [97, 44, 34, 98]) rfl rfl (by first | rfl | (simp; done)) (by decide) Tryd.underlying35 Tryd.underlying5 (ok := (fun k_ => some k_ ≠ (v210 : Value).ownBlock ∧ k_ ≠ gb214)) (fun k_ hk => ⟨Kd.fresh' (Kd.N_lt (by refine fN (h := ?_); exact (Kd.N_mono (Kd.N_far (p := ⟨gb214, 1, none⟩) (Kd.N_far (p := ⟨gb214, 0, none⟩) (Kd.N_mono HO211.out (fun k_ hk => (⟨hk, hk.2⟩ : _ ∧ k_ ≠ gb214))) (fun _ hk => hk.2) (.int .i64 t212)) (fun _ hk => hk.2) (.int .i64 t213)) (fun _ h_ => h_.1)))) k_ hk, Kd.freshB (g := gb214) (o := .cells #[.int .i64 t212, .int .i64 t213] 54 (0, 0)) (by refine fB (h := ?_); refine blk_put (cs := #[.int .i64 t212, .int .i64 0]) ?_ 1 _ rfl; refine fB (h := ?_); refine blk_put (cs := #[.int .i64 0, .int .i64 0]) ?_ 0 _ rfl; refine fB (h := ?_); exact BK214.out) k_ hk⟩) (Below.refl _ _) (Nat.le_refl _) ?_; intro v216 w24 ho25 hb hg_ hnew_; clear hg_ hnew_; (first | rw [← Ny215.out] at ho25 | (simp only [Int.reduceToNat] at ho25; rw [← Ny215.out] at ho25)); replace HO208 := Aside0.mk (Kd.V_below (by refine fV (h := ?_); exact (Kd.V_mono (Kd.V_far (p := ⟨gb214, 1, none⟩) (Kd.V_far (p := ⟨gb214, 0, none⟩) (Kd.V_mono HO208.out (fun k_ hk => (⟨hk, hk.2⟩ : _ ∧ k_ ≠ gb214))) (fun _ hk => hk.2) (.int .i64 t212)) (fun _ hk => hk.2) (.int .i64 t213)) (fun _ h_ => h_.1))) hb); replace HO211 := Aside0.mk (Kd.N_below (by refine fN (h := ?_); exact (Kd.N_mono (Kd.N_far (p := ⟨gb214, 1, none⟩) (Kd.N_far (p := ⟨gb214, 0, none⟩) (Kd.N_mono HO211.out (fun k_ hk => (⟨hk, hk.2⟩ : _ ∧ k_ ≠ gb214))) (fun _ hk => hk.2) (.int .i64 t212)) (fun _ hk => hk.2) (.int .i64 t213)) (fun _ h_ => h_.1))) hb); have HO217 := Aside0.mk (Kd.V_lower ho25 (below_size (fW HB.out))); replace BK214 := Aside0.mk (blk_below (g := gb214) (o := .cells #[.int .i64 t212, .int .i64 t213] 54 (0, 0)) (by refine fB (h := ?_); refine blk_put (cs := #[.int .i64 t212, .int .i64 0]) ?_ 1 _ rfl; refine fB (h := ?_); refine blk_put (cs := #[.int .i64 0, .int .i64 0]) ?_ 0 _ rfl; refine fB (h := ?_); exact BK214.out) hb); replace HB := Aside0.mk (below_step (fW HB.out) hb); clear hb ho25; obtain ⟨Ao26, co26, eo26⟩ := Kd.V_slice HO217.out; subst eo26) | ((with_reducible refine gate_callee (f := 33) rfl ?_); refine goesL_ (some 17) rfl rfl Tryd.func33 (by kernel_rfl) rfl #[.slice Ao26 y215.length co26] rfl oA ?_; (with_reducible refine (csvr_Parse.calls k _ _ y215 t218 t221 t222 _ ?side1 ?side2 A2.out).mono ?_); (case side1 => repeat (first | exact (Kd.V_reads' HO217.out).2.2 | (with_reducible refine Kd.C_alloc ?_ _) | (with_reducible refine Kd.C_drewN ?_ _) | (with_reducible refine Kd.C_drew ?_))); (case side2 => exact (Kd.V_reads' HO217.out).2.1); rintro e w27 ⟨v219, rfl, ho0, hb⟩; refine ⟨_, rfl, ?_⟩; replace HO208 := Aside0.mk (Kd.V_elder' (fV HO208.out) (Kd.S_base ho0) hb); replace HO217 := Aside0.mk (Kd.V_elder' (fV HO217.out) (Kd.S_base ho0) hb); have HO220 := Aside0.mk (Kd.N_lower (Kd.N_mono (ok' := fun k_ => some k_ ≠ (v210 : Value).ownBlock ∧ k_ ≠ gb214) (Kd.S_N (Kd.S_bound ho0)) (fun k_ hk_ => ⟨(Kd.fresh' (Kd.N_lt (fN HO211.out)) k_ hk_.2.1), (Kd.freshB (g := gb214) (o := .cells #[.int .i64 t212, .int .i64 t213] 54 (0, 0)) (fB BK214.out) k_ hk_.2.1)⟩)) (below_size (fW HB.out))); replace HO211 := Aside0.mk (Kd.N_elder' (fN HO211.out) (Kd.S_base ho0) hb); replace BK214 := Aside0.mk (blk_below (fB BK214.out) hb); replace HB := Aside0.mk (below_step (fW HB.out) hb); (try clear hb); (try clear hb2); (try clear hk); (try clear hi); (try clear ho0)) | ((with_reducible refine gate_dst (N := 4) rfl ?_); (try (refine gate_guard (by rfl) ?_; dsimp only)); refine bE (N := 4) (cs := #[.int .i64 0, .int .i64 0]) (t := 54) (h := ?_); intro gb223 hg w28 hbox hb; replace HO208 := Aside0.mk (Kd.V_below (Kd.V_elderB (fV HO208.out) gb223 (Nat.le_of_eq hg.symm)) hb); replace HO211 := Aside0.mk (Kd.N_below (Kd.N_elderB (fN HO211.out) gb223 (Nat.le_of_eq hg.symm)) hb); replace HO217 := Aside0.mk (Kd.V_below (Kd.V_elderB (fV HO217.out) gb223 (Nat.le_of_eq hg.symm)) hb); replace HO220 := Aside0.mk (Kd.N_below (Kd.N_elderB (fN HO220.out) gb223 (Nat.le_of_eq hg.symm)) hb); have BK223 := Aside0.mk (hbox); have GW223 := Aside0.mk (gE hg (fW HB.out)); have GE223 := GW223; replace HB := Aside0.mk (below_step (fW HB.out) hb); have NB214_223 := Aside0.mk ((by rw [hg]; exact Nat.ne_of_lt (blk_lt (g := gb214) (o := .cells #[.int .i64 t212, .int .i64 t213] 54 (0, 0)) (fB BK214.out)) : gb214 ≠ gb223)); have NB223_214 := Aside0.mk ((by rw [hg]; exact Nat.ne_of_gt (blk_lt (g := gb214) (o := .cells #[.int .i64 t212, .int .i64 t213] 54 (0, 0)) (fB BK214.out)) : gb223 ≠ gb214)); replace BK214 := Aside0.mk (blk_below (fB BK214.out) hb); clear hb hbox hg; have hnb29 := NB223_214.out; have hnc29 := NB214_223.out; have hcz30_0 : w28.cell? ⟨gb223, 0, none⟩ = some (.int .i64 0) := (blk_cell BK223.out 0).trans rfl; have hcz30_1 : w28.cell? ⟨gb223, 1, none⟩ = some (.int .i64 0) := (blk_cell BK223.out 1).trans rfl; have hfz30_0 := blk_frozen BK223.out 0; have hfz30_1 := blk_frozen BK223.out 1) | ((with_reducible refine gate_dst (N := 22) rfl ?_); (try (refine gate_guard (by rfl) ?_; dsimp only)); refine XW.V_const _ 5 rfl (N := 22) rfl 35 _ rfl (xs := [97, 34, 98]) rfl rfl (by first | rfl | (simp; done)) (by decide) Tryd.underlying35 Tryd.underlying5 (ok := (fun k_ => some k_ ≠ (v210 : Value).ownBlock ∧ some k_ ≠ (v219 : Value).ownBlock ∧ k_ ≠ gb214 ∧ k_ ≠ gb223)) (fun k_ hk => ⟨Kd.fresh' (Kd.N_lt (by refine fN (h := ?_); exact (Kd.N_mono (Kd.N_far (p := ⟨gb223, 1, none⟩) (Kd.N_far (p := ⟨gb223, 0, none⟩) (Kd.N_mono HO211.out (fun k_ hk => (⟨hk, hk.2⟩ : _ ∧ k_ ≠ gb223))) (fun _ hk => hk.2) (.int .i64 t221)) (fun _ hk => hk.2) (.int .i64 t222)) (fun _ h_ => h_.1)))) k_ hk, Kd.fresh' (Kd.N_lt (by refine fN (h := ?_); exact (Kd.N_mono (Kd.N_far (p := ⟨gb223, 1, none⟩) (Kd.N_far (p := ⟨gb223, 0, none⟩) (Kd.N_mono HO220.out (fun k_ hk => (⟨hk, hk.2⟩ : _ ∧ k_ ≠ gb223))) (fun _ hk => hk.2) (.int .i64 t221)) (fun _ hk => hk.2) (.int .i64 t222)) (fun _ h_ => h_.1)))) k_ hk, Kd.freshB (g := gb214) (o := .cells #[.int .i64 t212, .int .i64 t213] 54 (0, 0)) (by refine fB (h := ?_); refine blk_far ?_ NB214_223.out _; refine fB (h := ?_); refine blk_far ?_ NB214_223.out _; refine fB (h := ?_); exact BK214.out) k_ hk, Kd.freshB (g := gb223) (o := .cells #[.int .i64 t221, .int .i64 t222] 54 (0, 0)) (by refine fB (h := ?_); refine blk_put (cs := #[.int .i64 t221, .int .i64 0]) ?_ 1 _ rfl; refine fB (h := ?_); refine blk_put (cs := #[.int .i64 0, .int .i64 0]) ?_ 0 _ rfl; refine fB (h := ?_); exact BK223.out) k_ hk⟩) (Below.refl _ _) (Nat.le_refl _) ?_; intro v225 w31 ho32 hb hg_ hnew_; clear hg_ hnew_; (first | rw [← Ny224.out] at ho32 | (simp only [Int.reduceToNat] at ho32; rw [← Ny224.out] at ho32)); replace HO208 := Aside0.mk (Kd.V_below (by refine fV (h := ?_); exact (Kd.V_mono (Kd.V_far (p := ⟨gb223, 1, none⟩) (Kd.V_far (p := ⟨gb223, 0, none⟩) (Kd.V_mono HO208.out (fun k_ hk => (⟨hk, hk.2⟩ : _ ∧ k_ ≠ gb223))) (fun _ hk => hk.2) (.int .i64 t221)) (fun _ hk => hk.2) (.int .i64 t222)) (fun _ h_ => h_.1))) hb); replace HO211 := Aside0.mk (Kd.N_below (by refine fN (h := ?_); exact (Kd.N_mono (Kd.N_far (p := ⟨gb223, 1, none⟩) (Kd.N_far (p := ⟨gb223, 0, none⟩) (Kd.N_mono HO211.out (fun k_ hk => (⟨hk, hk.2⟩ : _ ∧ k_ ≠ gb223))) (fun _ hk => hk.2) (.int .i64 t221)) (fun _ hk => hk.2) (.int .i64 t222)) (fun _ h_ => h_.1))) hb); replace HO217 := Aside0.mk (Kd.V_below (by refine fV (h := ?_); exact (Kd.V_mono (Kd.V_far (p := ⟨gb223, 1, none⟩) (Kd.V_far (p := ⟨gb223, 0, none⟩) (Kd.V_mono HO217.out (fun k_ hk => (⟨hk, hk.2⟩ : _ ∧ k_ ≠ gb223))) (fun _ hk => hk.2) (.int .i64 t221)) (fun _ hk => hk.2) (.int .i64 t222)) (fun _ h_ => h_.1))) hb); replace HO220 := Aside0.mk (Kd.N_below (by refine fN (h := ?_); exact (Kd.N_mono (Kd.N_far (p := ⟨gb223, 1, none⟩) (Kd.N_far (p := ⟨gb223, 0, none⟩) (Kd.N_mono HO220.out (fun k_ hk => (⟨hk, hk.2⟩ : _ ∧ k_ ≠ gb223))) (fun _ hk => hk.2) (.int .i64 t221)) (fun _ hk => hk.2) (.int .i64 t222)) (fun _ h_ => h_.1))) hb); have HO226 := Aside0.mk (Kd.V_lower ho32 (below_size (fW HB.out))); replace BK214 := Aside0.mk (blk_below (g := gb214) (o := .cells #[.int .i64 t212, .int .i64 t213] 54 (0, 0)) (by refine fB (h := ?_); refine blk_far ?_ NB214_223.out _; refine fB (h := ?_); refine blk_far ?_ NB214_223.out _; refine fB (h := ?_); exact BK214.out) hb); replace BK223 := Aside0.mk (blk_below (g := gb223) (o := .cells #[.int .i64 t221, .int .i64 t222] 54 (0, 0)) (by refine fB (h := ?_); refine blk_put (cs := #[.int .i64 t221, .int .i64 0]) ?_ 1 _ rfl; refine fB (h := ?_); refine blk_put (cs := #[.int .i64 0, .int .i64 0]) ?_ 0 _ rfl; refine fB (h := ?_); exact BK223.out) hb); replace HB := Aside0.mk (below_step (fW HB.out) hb); clear hb ho32; obtain ⟨Ao33, co33, eo33⟩ := Kd.V_slice HO226.out; subst eo33) | ((with_reducible refine gate_callee (f := 33) rfl ?_); refine goesL_ (some 23) rfl rfl Tryd.func33 (by kernel_rfl) rfl #[.slice Ao33 y224.length co33] rfl oA ?_; (with_reducible refine (csvr_Parse.calls k _ _ y224 t227 t230 t231 _ ?side1 ?side2 A3.out).mono ?_); (case side1 => repeat (first | exact (Kd.V_reads' HO226.out).2.2 | (with_reducible refine Kd.C_alloc ?_ _) | (with_reducible refine Kd.C_drewN ?_ _) | (with_reducible refine Kd.C_drew ?_))); (case side2 => exact (Kd.V_reads' HO226.out).2.1); rintro e w34 ⟨v228, rfl, ho0, hb⟩; refine ⟨_, rfl, ?_⟩; replace HO208 := Aside0.mk (Kd.V_elder' (fV HO208.out) (Kd.S_base ho0) hb); replace HO217 := Aside0.mk (Kd.V_elder' (fV HO217.out) (Kd.S_base ho0) hb); replace HO226 := Aside0.mk (Kd.V_elder' (fV HO226.out) (Kd.S_base ho0) hb); have HO229 := Aside0.mk (Kd.N_lower (Kd.N_mono (ok' := fun k_ => some k_ ≠ (v210 : Value).ownBlock ∧ some k_ ≠ (v219 : Value).ownBlock ∧ k_ ≠ gb214 ∧ k_ ≠ gb223) (Kd.S_N (Kd.S_bound ho0)) (fun k_ hk_ => ⟨(Kd.fresh' (Kd.N_lt (fN HO211.out)) k_ hk_.2.1), (Kd.fresh' (Kd.N_lt (fN HO220.out)) k_ hk_.2.1), (Kd.freshB (g := gb214) (o := .cells #[.int .i64 t212, .int .i64 t213] 54 (0, 0)) (fB BK214.out) k_ hk_.2.1), (Kd.freshB (g := gb223) (o := .cells #[.int .i64 t221, .int .i64 t222] 54 (0, 0)) (fB BK223.out) k_ hk_.2.1)⟩)) (below_size (fW HB.out))); replace HO211 := Aside0.mk (Kd.N_elder' (fN HO211.out) (Kd.S_base ho0) hb); replace HO220 := Aside0.mk (Kd.N_elder' (fN HO220.out) (Kd.S_base ho0) hb); replace BK214 := Aside0.mk (blk_below (fB BK214.out) hb); replace BK223 := Aside0.mk (blk_below (fB BK223.out) hb); replace HB := Aside0.mk (below_step (fW HB.out) hb); (try clear hb); (try clear hb2); (try clear hk); (try clear hi); (try clear ho0)) | ((with_reducible refine gate_dst (N := 6) rfl ?_); (try (refine gate_guard (by rfl) ?_; dsimp only)); refine bE (N := 6) (cs := #[.int .i64 0, .int .i64 0]) (t := 54) (h := ?_); intro gb232 hg w35 hbox hb; replace HO208 := Aside0.mk (Kd.V_below (Kd.V_elderB (fV HO208.out) gb232 (Nat.le_of_eq hg.symm)) hb); replace HO211 := Aside0.mk (Kd.N_below (Kd.N_elderB (fN HO211.out) gb232 (Nat.le_of_eq hg.symm)) hb); replace HO217 := Aside0.mk (Kd.V_below (Kd.V_elderB (fV HO217.out) gb232 (Nat.le_of_eq hg.symm)) hb); replace HO220 := Aside0.mk (Kd.N_below (Kd.N_elderB (fN HO220.out) gb232 (Nat.le_of_eq hg.symm)) hb); replace HO226 := Aside0.mk (Kd.V_below (Kd.V_elderB (fV HO226.out) gb232 (Nat.le_of_eq hg.symm)) hb); replace HO229 := Aside0.mk (Kd.N_below (Kd.N_elderB (fN HO229.out) gb232 (Nat.le_of_eq hg.symm)) hb); have BK232 := Aside0.mk (hbox); have GW232 := Aside0.mk (gE hg (fW HB.out)); have GE232 := GW232; replace HB := Aside0.mk (below_step (fW HB.out) hb); have NB214_232 := Aside0.mk ((by rw [hg]; exact Nat.ne_of_lt (blk_lt (g := gb214) (o := .cells #[.int .i64 t212, .int .i64 t213] 54 (0, 0)) (fB BK214.out)) : gb214 ≠ gb232)); have NB232_214 := Aside0.mk ((by rw [hg]; exact Nat.ne_of_gt (blk_lt (g := gb214) (o := .cells #[.int .i64 t212, .int .i64 t213] 54 (0, 0)) (fB BK214.out)) : gb232 ≠ gb214)); replace BK214 := Aside0.mk (blk_below (fB BK214.out) hb); have NB223_232 := Aside0.mk ((by rw [hg]; exact Nat.ne_of_lt (blk_lt (g := gb223) (o := .cells #[.int .i64 t221, .int .i64 t222] 54 (0, 0)) (fB BK223.out)) : gb223 ≠ gb232)); have NB232_223 := Aside0.mk ((by rw [hg]; exact Nat.ne_of_gt (blk_lt (g := gb223) (o := .cells #[.int .i64 t221, .int .i64 t222] 54 (0, 0)) (fB BK223.out)) : gb232 ≠ gb223)); replace BK223 := Aside0.mk (blk_below (fB BK223.out) hb); clear hb hbox hg; have hnb36 := NB232_214.out; have hnc36 := NB214_232.out; have hnb37 := NB232_223.out; have hnc37 := NB223_232.out; have hcz38_0 : w35.cell? ⟨gb232, 0, none⟩ = some (.int .i64 0) := (blk_cell BK232.out 0).trans rfl; have hcz38_1 : w35.cell? ⟨gb232, 1, none⟩ = some (.int .i64 0) := (blk_cell BK232.out 1).trans rfl; have hfz38_0 := blk_frozen BK232.out 0; have hfz38_1 := blk_frozen BK232.out 1) | ((with_reducible refine gate_dst (N := 26) rfl ?_); (try (refine gate_guard (by rfl) ?_; dsimp only)); refine Kd.R_lit Kd.string _ 9 ?hg (N := 26) ?hd (xs := ([(⟨#[97]⟩ : ByteArray), (⟨#[98, 44, 99]⟩ : ByteArray)] : List ByteArray)) (inner := [.string (⟨#[97]⟩ : ByteArray), .string (⟨#[98, 44, 99]⟩ : ByteArray)]) (ok := fun _ => True) (okp := fun _ => True) ?hr ?hp (fun _ hk => hk) trivial (Below.refl _ _) (Nat.le_refl _) (by simp) ?_; (case hd => rfl); (case hg => rfl); (case hr => first | (go_simp; done) | (go_simp; rfl)); (case hp => exact (Reps.one (show Kd.M Kd.string _ _ _ (⟨#[97]⟩ : ByteArray) [.string (⟨#[97]⟩ : ByteArray)] from rfl) (Reps.one (show Kd.M Kd.string _ _ _ (⟨#[98, 44, 99]⟩ : ByteArray) [.string (⟨#[98, 44, 99]⟩ : ByteArray)] from rfl) (Reps.none _ _)))); intro v234 w39 ho40 hb hg_ hnew_; clear hg_ hnew_; (first | rw [← Ny233.out] at ho40 | (simp only [Int.reduceToNat] at ho40; rw [← Ny233.out] at ho40)); replace HO208 := Aside0.mk (Kd.V_elder' (by refine fV (h := ?_); exact (Kd.V_mono (Kd.V_far (p := ⟨gb232, 1, none⟩) (Kd.V_far (p := ⟨gb232, 0, none⟩) (Kd.V_mono HO208.out (fun k_ hk => (⟨hk, hk.2⟩ : _ ∧ k_ ≠ gb232))) (fun _ hk => hk.2) (.int .i64 t230)) (fun _ hk => hk.2) (.int .i64 t231)) (fun _ h_ => h_.1))) (Kd.R_base ho40) hb); replace HO211 := Aside0.mk (Kd.N_elder' (by refine fN (h := ?_); exact (Kd.N_mono (Kd.N_far (p := ⟨gb232, 1, none⟩) (Kd.N_far (p := ⟨gb232, 0, none⟩) (Kd.N_mono HO211.out (fun k_ hk => (⟨hk, hk.2⟩ : _ ∧ k_ ≠ gb232))) (fun _ hk => hk.2) (.int .i64 t230)) (fun _ hk => hk.2) (.int .i64 t231)) (fun _ h_ => h_.1))) (Kd.R_base ho40) hb); replace HO217 := Aside0.mk (Kd.V_elder' (by refine fV (h := ?_); exact (Kd.V_mono (Kd.V_far (p := ⟨gb232, 1, none⟩) (Kd.V_far (p := ⟨gb232, 0, none⟩) (Kd.V_mono HO217.out (fun k_ hk => (⟨hk, hk.2⟩ : _ ∧ k_ ≠ gb232))) (fun _ hk => hk.2) (.int .i64 t230)) (fun _ hk => hk.2) (.int .i64 t231)) (fun _ h_ => h_.1))) (Kd.R_base ho40) hb); replace HO220 := Aside0.mk (Kd.N_elder' (by refine fN (h := ?_); exact (Kd.N_mono (Kd.N_far (p := ⟨gb232, 1, none⟩) (Kd.N_far (p := ⟨gb232, 0, none⟩) (Kd.N_mono HO220.out (fun k_ hk => (⟨hk, hk.2⟩ : _ ∧ k_ ≠ gb232))) (fun _ hk => hk.2) (.int .i64 t230)) (fun _ hk => hk.2) (.int .i64 t231)) (fun _ h_ => h_.1))) (Kd.R_base ho40) hb); replace HO226 := Aside0.mk (Kd.V_elder' (by refine fV (h := ?_); exact (Kd.V_mono (Kd.V_far (p := ⟨gb232, 1, none⟩) (Kd.V_far (p := ⟨gb232, 0, none⟩) (Kd.V_mono HO226.out (fun k_ hk => (⟨hk, hk.2⟩ : _ ∧ k_ ≠ gb232))) (fun _ hk => hk.2) (.int .i64 t230)) (fun _ hk => hk.2) (.int .i64 t231)) (fun _ h_ => h_.1))) (Kd.R_base ho40) hb); replace HO229 := Aside0.mk (Kd.N_elder' (by refine fN (h := ?_); exact (Kd.N_mono (Kd.N_far (p := ⟨gb232, 1, none⟩) (Kd.N_far (p := ⟨gb232, 0, none⟩) (Kd.N_mono HO229.out (fun k_ hk => (⟨hk, hk.2⟩ : _ ∧ k_ ≠ gb232))) (fun _ hk => hk.2) (.int .i64 t230)) (fun _ hk => hk.2) (.int .i64 t231)) (fun _ h_ => h_.1))) (Kd.R_base ho40) hb); have HO235 := Aside0.mk (Kd.R_lower ho40 (below_size (fW HB.out))); replace BK214 := Aside0.mk (blk_below (g := gb214) (o := .cells #[.int .i64 t212, .int .i64 t213] 54 (0, 0)) (by refine fB (h := ?_); refine blk_far ?_ NB214_232.out _; refine fB (h := ?_); refine blk_far ?_ NB214_232.out _; refine fB (h := ?_); exact BK214.out) hb); replace BK223 := Aside0.mk (blk_below (g := gb223) (o := .cells #[.int .i64 t221, .int .i64 t222] 54 (0, 0)) (by refine fB (h := ?_); refine blk_far ?_ NB223_232.out _; refine fB (h := ?_); refine blk_far ?_ NB223_232.out _; refine fB (h := ?_); exact BK223.out) hb); replace BK232 := Aside0.mk (blk_below (g := gb232) (o := .cells #[.int .i64 t230, .int .i64 t231] 54 (0, 0)) (by refine fB (h := ?_); refine blk_put (cs := #[.int .i64 t230, .int .i64 0]) ?_ 1 _ rfl; refine fB (h := ?_); refine blk_put (cs := #[.int .i64 0, .int .i64 0]) ?_ 0 _ rfl; refine fB (h := ?_); exact BK232.out) hb); replace HB := Aside0.mk (below_step (fW HB.out) hb); clear hb ho40) | ((with_reducible refine gate_dst (N := 27) rfl ?_); (try (refine gate_guard (by rfl) ?_; dsimp only)); refine Kd.R_lit Kd.string _ 9 ?hg (N := 27) ?hd (xs := ([(⟨#[]⟩ : ByteArray)] : List ByteArray)) (inner := [.string (⟨#[]⟩ : ByteArray)]) (ok := fun _ => True) (okp := fun _ => True) ?hr ?hp (fun _ hk => hk) trivial (Below.refl _ _) (Nat.le_refl _) (by simp) ?_; (case hd => rfl); (case hg => rfl); (case hr => first | (go_simp; done) | (go_simp; rfl)); (case hp => exact (Reps.one (show Kd.M Kd.string _ _ _ (⟨#[]⟩ : ByteArray) [.string (⟨#[]⟩ : ByteArray)] from rfl) (Reps.none _ _))); intro v237 w41 ho42 hb hg_ hnew_; clear hg_ hnew_; (first | rw [← Ny236.out] at ho42 | (simp only [Int.reduceToNat] at ho42; rw [← Ny236.out] at ho42)); replace HO208 := Aside0.mk (Kd.V_elder' (fV HO208.out) (Kd.R_base ho42) hb); replace HO211 := Aside0.mk (Kd.N_elder' (fN HO211.out) (Kd.R_base ho42) hb); replace HO217 := Aside0.mk (Kd.V_elder' (fV HO217.out) (Kd.R_base ho42) hb); replace HO220 := Aside0.mk (Kd.N_elder' (fN HO220.out) (Kd.R_base ho42) hb); replace HO226 := Aside0.mk (Kd.V_elder' (fV HO226.out) (Kd.R_base ho42) hb); replace HO229 := Aside0.mk (Kd.N_elder' (fN HO229.out) (Kd.R_base ho42) hb); have HO238 := Aside0.mk (Kd.R_lower (Kd.R_new' ho42 (Kd.R_lt (fR HO235.out))) (below_size (fW HB.out))); replace HO235 := Aside0.mk (Kd.R_elder' (fR HO235.out) (Kd.R_base ho42) hb); replace BK214 := Aside0.mk (blk_below (fB BK214.out) hb); replace BK223 := Aside0.mk (blk_below (fB BK223.out) hb); replace BK232 := Aside0.mk (blk_below (fB BK232.out) hb); replace HB := Aside0.mk (below_step (fW HB.out) hb); clear hb ho42; obtain ⟨Ao43, co43, eo43⟩ := Kd.R_slice HO235.out; subst eo43; obtain ⟨Ao44, co44, eo44⟩ := Kd.R_slice HO238.out; subst eo44) | ((with_reducible refine gate_dst (N := 28) rfl ?_); (try (refine gate_guard (by rfl) ?_; dsimp only)); refine Kd.N_lit (Kd.slice 9 Kd.string) _ 39 ?hg (N' := 28) ?hd (xs := ([y233, y236] : List (List ByteArray))) (inner := [.slice Ao43 y233.length co43, .slice Ao44 y236.length co44]) (ok := (fun k_ => some k_ ≠ (v210 : Value).ownBlock ∧ some k_ ≠ (v219 : Value).ownBlock ∧ some k_ ≠ (v228 : Value).ownBlock ∧ k_ ≠ gb214 ∧ k_ ≠ gb223 ∧ k_ ≠ gb232)) (okp := (fun k_ => some k_ ≠ (v210 : Value).ownBlock ∧ some k_ ≠ (v219 : Value).ownBlock ∧ some k_ ≠ (v228 : Value).ownBlock ∧ k_ ≠ gb214 ∧ k_ ≠ gb223 ∧ k_ ≠ gb232)) ?hr ?hp (fun _ hk => hk) ((show ∀ k_, w41.heap.size ≤ k_ → (fun k_ => some k_ ≠ (v210 : Value).ownBlock ∧ some k_ ≠ (v219 : Value).ownBlock ∧ some k_ ≠ (v228 : Value).ownBlock ∧ k_ ≠ gb214 ∧ k_ ≠ gb223 ∧ k_ ≠ gb232) k_ from fun k_ hk => ⟨Kd.fresh' (Kd.N_lt (fN HO211.out)) k_ hk, Kd.fresh' (Kd.N_lt (fN HO220.out)) k_ hk, Kd.fresh' (Kd.N_lt (fN HO229.out)) k_ hk, Kd.freshB (g := gb214) (o := .cells #[.int .i64 t212, .int .i64 t213] 54 (0, 0)) (fB BK214.out) k_ hk, Kd.freshB (g := gb223) (o := .cells #[.int .i64 t221, .int .i64 t222] 54 (0, 0)) (fB BK223.out) k_ hk, Kd.freshB (g := gb232) (o := .cells #[.int .i64 t230, .int .i64 t231] 54 (0, 0)) (fB BK232.out) k_ hk⟩) _ (Nat.le_refl _)) (Below.refl _ _) (Nat.le_refl _) (by simp) ?_; (case hd => rfl); (case hg => rfl); (case hr => first | (go_simp; done) | (go_simp; rfl)); (case hp => exact (Reps.one (show Kd.FK (Kd.slice 9 Kd.string) _ _ y233 [.slice Ao43 y233.length co43] from (Kd.FK_slice_mk (Kd.R_reads' (Kd.R_mono (ok' := (fun k_ => some k_ ≠ (v210 : Value).ownBlock ∧ some k_ ≠ (v219 : Value).ownBlock ∧ some k_ ≠ (v228 : Value).ownBlock ∧ k_ ≠ gb214 ∧ k_ ≠ gb223 ∧ k_ ≠ gb232)) (Kd.R_types (Kd.R_types (Kd.R_types (Kd.R_apart' (Kd.R_apart' (Kd.R_apart' (HO235.out) (Kd.N_typed HO211.out) (by decide)) (Kd.N_typed HO220.out) (by decide)) (Kd.N_typed HO229.out) (by decide)) BK214.out (by decide)) BK223.out (by decide)) BK232.out (by decide)) (fun k_ hk => ⟨hk.1.1.1.1.1.2, ⟨hk.1.1.1.1.2, ⟨hk.1.1.1.2, ⟨hk.1.1.2, ⟨hk.1.2, hk.2⟩⟩⟩⟩⟩))).2.1 (Kd.R_F (Kd.R_mono (ok' := (fun k_ => some k_ ≠ (v210 : Value).ownBlock ∧ some k_ ≠ (v219 : Value).ownBlock ∧ some k_ ≠ (v228 : Value).ownBlock ∧ k_ ≠ gb214 ∧ k_ ≠ gb223 ∧ k_ ≠ gb232)) (Kd.R_types (Kd.R_types (Kd.R_types (Kd.R_apart' (Kd.R_apart' (Kd.R_apart' (HO235.out) (Kd.N_typed HO211.out) (by decide)) (Kd.N_typed HO220.out) (by decide)) (Kd.N_typed HO229.out) (by decide)) BK214.out (by decide)) BK223.out (by decide)) BK232.out (by decide)) (fun k_ hk => ⟨hk.1.1.1.1.1.2, ⟨hk.1.1.1.1.2, ⟨hk.1.1.1.2, ⟨hk.1.1.2, ⟨hk.1.2, hk.2⟩⟩⟩⟩⟩))))) (Reps.one (show Kd.FK (Kd.slice 9 Kd.string) _ _ y236 [.slice Ao44 y236.length co44] from (Kd.FK_slice_mk (Kd.R_reads' (Kd.R_mono (ok' := (fun k_ => some k_ ≠ (v210 : Value).ownBlock ∧ some k_ ≠ (v219 : Value).ownBlock ∧ some k_ ≠ (v228 : Value).ownBlock ∧ k_ ≠ gb214 ∧ k_ ≠ gb223 ∧ k_ ≠ gb232)) (Kd.R_types (Kd.R_types (Kd.R_types (Kd.R_apart' (Kd.R_apart' (Kd.R_apart' (HO238.out) (Kd.N_typed HO211.out) (by decide)) (Kd.N_typed HO220.out) (by decide)) (Kd.N_typed HO229.out) (by decide)) BK214.out (by decide)) BK223.out (by decide)) BK232.out (by decide)) (fun k_ hk => ⟨hk.1.1.1.1.1.2, ⟨hk.1.1.1.1.2, ⟨hk.1.1.1.2, ⟨hk.1.1.2, ⟨hk.1.2, hk.2⟩⟩⟩⟩⟩))).2.1 (Kd.R_F (Kd.R_mono (ok' := (fun k_ => some k_ ≠ (v210 : Value).ownBlock ∧ some k_ ≠ (v219 : Value).ownBlock ∧ some k_ ≠ (v228 : Value).ownBlock ∧ k_ ≠ gb214 ∧ k_ ≠ gb223 ∧ k_ ≠ gb232)) (Kd.R_types (Kd.R_types (Kd.R_types (Kd.R_apart' (Kd.R_apart' (Kd.R_apart' (HO238.out) (Kd.N_typed HO211.out) (by decide)) (Kd.N_typed HO220.out) (by decide)) (Kd.N_typed HO229.out) (by decide)) BK214.out (by decide)) BK223.out (by decide)) BK232.out (by decide)) (fun k_ hk => ⟨hk.1.1.1.1.1.2, ⟨hk.1.1.1.1.2, ⟨hk.1.1.1.2, ⟨hk.1.1.2, ⟨hk.1.2, hk.2⟩⟩⟩⟩⟩))))) (Reps.none _ _)))); intro v240 w45 ho46 hb hg_ hnew_; clear hg_ hnew_; (first | rw [← Ny239.out] at ho46 | (simp only [Int.reduceToNat] at ho46; rw [← Ny239.out] at ho46)); replace HO208 := Aside0.mk (Kd.V_elder' (fV HO208.out) (Kd.N_base ho46) hb); replace HO211 := Aside0.mk (Kd.N_elder' (fN HO211.out) (Kd.N_base ho46) hb); replace HO217 := Aside0.mk (Kd.V_elder' (fV HO217.out) (Kd.N_base ho46) hb); replace HO220 := Aside0.mk (Kd.N_elder' (fN HO220.out) (Kd.N_base ho46) hb); replace HO226 := Aside0.mk (Kd.V_elder' (fV HO226.out) (Kd.N_base ho46) hb); replace HO229 := Aside0.mk (Kd.N_elder' (fN HO229.out) (Kd.N_base ho46) hb); have HO241 := Aside0.mk (Kd.N_lower ho46 (below_size (fW HB.out))); replace BK214 := Aside0.mk (blk_below (fB BK214.out) hb); replace BK223 := Aside0.mk (blk_below (fB BK223.out) hb); replace BK232 := Aside0.mk (blk_below (fB BK232.out) hb); replace HB := Aside0.mk (below_step (fW HB.out) hb); clear HO235 HO238; clear hb ho46; obtain ⟨Ao47, co47, eo47⟩ := Kd.N_slice HO241.out; subst eo47) | ((with_reducible refine gate_callee (f := 38) rfl ?_); refine goesL_ (some 29) rfl rfl Tryd.func38 (by kernel_rfl) rfl #[.slice Ao47 y239.length co47] rfl oA ?_; (with_reducible refine (csvr_Print.calls k _ _ y239 t242 _ ?side1 ?side2 ?side3 A4.out).mono ?_); (case side1 => repeat (first | exact (Kd.N_reads' HO241.out).2.2 | (with_reducible refine Kd.C_alloc ?_ _) | (with_reducible refine Kd.C_drewN ?_ _) | (with_reducible refine Kd.C_drew ?_))); (case side2 => exact (Kd.N_reads' HO241.out).2.1); (case side3 => exact XM.Tabs.below hMax (fW HB.out)); rintro e w48 ⟨v243, rfl, ho0, hb⟩; refine ⟨_, rfl, ?_⟩; replace HO208 := Aside0.mk (Kd.V_below (fV HO208.out) hb); replace HO217 := Aside0.mk (Kd.V_below (fV HO217.out) hb); replace HO226 := Aside0.mk (Kd.V_below (fV HO226.out) hb); have HO244 := Aside0.mk (Kd.V_lower (Kd.V_mono (ok' := fun k_ => some k_ ≠ (v210 : Value).ownBlock ∧ some k_ ≠ (v219 : Value).ownBlock ∧ some k_ ≠ (v228 : Value).ownBlock ∧ some k_ ≠ (.slice Ao47 y239.length co47 : Value).ownBlock ∧ k_ ≠ gb214 ∧ k_ ≠ gb223 ∧ k_ ≠ gb232) ho0 (fun k_ hk_ => ⟨(Kd.fresh' (Kd.N_lt (fN HO211.out)) k_ hk_), (Kd.fresh' (Kd.N_lt (fN HO220.out)) k_ hk_), (Kd.fresh' (Kd.N_lt (fN HO229.out)) k_ hk_), (Kd.fresh' (Kd.N_lt (fN HO241.out)) k_ hk_), (Kd.freshB (g := gb214) (o := .cells #[.int .i64 t212, .int .i64 t213] 54 (0, 0)) (fB BK214.out) k_ hk_), (Kd.freshB (g := gb223) (o := .cells #[.int .i64 t221, .int .i64 t222] 54 (0, 0)) (fB BK223.out) k_ hk_), (Kd.freshB (g := gb232) (o := .cells #[.int .i64 t230, .int .i64 t231] 54 (0, 0)) (fB BK232.out) k_ hk_)⟩)) (below_size (fW HB.out))); replace HO211 := Aside0.mk (Kd.N_below (fN HO211.out) hb); replace HO220 := Aside0.mk (Kd.N_below (fN HO220.out) hb); replace HO229 := Aside0.mk (Kd.N_below (fN HO229.out) hb); replace HO241 := Aside0.mk (Kd.N_below (fN HO241.out) hb); replace BK214 := Aside0.mk (blk_below (fB BK214.out) hb); replace BK223 := Aside0.mk (blk_below (fB BK223.out) hb); replace BK232 := Aside0.mk (blk_below (fB BK232.out) hb); replace HB := Aside0.mk (below_step (fW HB.out) hb); (try clear hb); (try clear hb2); (try clear hk); (try clear hi); (try clear ho0); have hcz49_0 : w48.cell? ⟨gb214, 0, none⟩ = some (.int .i64 t212) := (blk_cell BK214.out 0).trans rfl; have hcz49_1 : w48.cell? ⟨gb214, 1, none⟩ = some (.int .i64 t213) := (blk_cell BK214.out 1).trans rfl; have hfz49_0 := blk_frozen BK214.out 0; have hfz49_1 := blk_frozen BK214.out 1; obtain ⟨Ao50, co50, eo50⟩ := Kd.N_slice HO211.out; subst eo50; have p245 : 0 ≤ (0 : Int) := (by omega); have q245 : 0 < (t209.length : Int) := oD; obtain ⟨ad245, A245_0, c245_0, e245, hx245_0, hl245_0, hi245_0⟩ := at_L4 (Kd.N_reads' HO211.out).2.2 0 p245 q245; cases e245; obtain ⟨ce245, hce245, hMe245, hcc245⟩ := Kd.N_get HO211.out [] 0 p245 (by first | exact q245 | exact oD | (have e_ := (Kd.N_reads' HO211.out).1; omega)); obtain ⟨ua245_0, uc245_0, rfl, ul245_0, ge245_0⟩ := Kd.FK_slice_open hMe245; have hv245_0 := hcc245 0 _ rfl; rw [Nat.add_zero, show ((Kd.slice 59 k59)).sz = 1 from rfl, Nat.mul_one] at hv245_0; replace hv245_0 := Option.some.inj (hv245_0.symm.trans hx245_0); injection hv245_0 with hva_ hvn_ hvc_; rw [hva_] at ge245_0; rw [hvc_] at ul245_0; have HL245_0 := Aside0.mk (show Kd.V k59 59 _ w.heap.size _ _ (rd_L4 t209 0) from Kd.V_mk ul245_0 ge245_0); clear hva_ hvn_ hvc_ ge245_0 ul245_0; clear hcc245 hce245; have qi245 : (0 < t209.length) = True := eq_true (by omega); (try rw [show ((0 : Int)).toNat = 0 from rfl] at hx245_0); (try rw [Addr.add_zero'] at hx245_0); have HR245_0 := Aside0.mk hi245_0; have HC245_0 := Aside0.mk hl245_0; clear hi245_0 hl245_0; replace p245 := eq_true p245; replace q245 := eq_true q245; have p246 : 0 ≤ (0 : Int) := (by omega); have q246 : 0 < (t209.length : Int) := oD; obtain ⟨ad246, A246_0, c246_0, e246, hx246_0, hl246_0, hi246_0⟩ := at_L4 (Kd.N_reads' HO211.out).2.2 0 p246 q246; obtain rfl : ad245 = ad246 := (by injection e246); obtain ⟨ce246, hce246, hMe246, hcc246⟩ := Kd.N_get HO211.out [] 0 p246 (by first | exact q246 | exact oD | (have e_ := (Kd.N_reads' HO211.out).1; omega)); obtain ⟨ua246_0, uc246_0, rfl, ul246_0, ge246_0⟩ := Kd.FK_slice_open hMe246; have hv246_0 := hcc246 0 _ rfl; rw [Nat.add_zero, show ((Kd.slice 59 k59)).sz = 1 from rfl, Nat.mul_one] at hv246_0; replace hv246_0 := Option.some.inj (hv246_0.symm.trans hx246_0); injection hv246_0 with hva_ hvn_ hvc_; rw [hva_] at ge246_0; rw [hvc_] at ul246_0; have HL246_0 := Aside0.mk (show Kd.V k59 59 _ w.heap.size _ _ (rd_L4 t209 0) from Kd.V_mk ul246_0 ge246_0); clear hva_ hvn_ hvc_ ge246_0 ul246_0; clear hcc246 hce246; have qi246 : (0 < t209.length) = True := eq_true (by omega); (try rw [show ((0 : Int)).toNat = 0 from rfl] at hx246_0); (try rw [Addr.add_zero'] at hx246_0); have HR246_0 := Aside0.mk hi246_0; have HC246_0 := Aside0.mk hl246_0; clear hi246_0 hl246_0; replace p246 := eq_true p246; replace q246 := eq_true q246; have ea_ := Option.some.inj (hx245_0.symm.trans hx246_0); injection ea_ with ea_ en_ ec_; subst ea_; subst ec_; clear en_; have p247 : 0 ≤ (1 : Int) := (by omega); have q247 : 1 < ((rd_L4 t209 0).length : Int) := oD; obtain ⟨ad247, e247, hx247_0, hx247_1, hx247_2⟩ := at_T59 (by repeat (first | (with_reducible exact HR246_0.out) | (with_reducible refine Kd.C_alloc ?_ _) | (with_reducible refine Kd.C_drewN ?_ _) | (with_reducible refine Kd.C_drew ?_) | exact HR246_0.out)) 1 p247 q247; cases e247; (try simp only [show (1 : Int).toNat = 1 from rfl, Nat.reduceMul, Nat.reduceEqDiff, Go.Addr.add, ↓reduceIte] at hx247_0); (try simp only [show (1 : Int).toNat = 1 from rfl, Nat.reduceMul, Nat.reduceEqDiff, Go.Addr.add, ↓reduceIte] at hx247_1); (try simp only [show (1 : Int).toNat = 1 from rfl, Nat.reduceMul, Nat.reduceEqDiff, Go.Addr.add, ↓reduceIte] at hx247_2); have qi247 : (1 < (rd_L4 t209 0).length) = True := eq_true (by omega); (try rw [show ((1 : Int)).toNat = 1 from rfl] at hx247_0); (try rw [show 1 * 3 = 3 from rfl] at hx247_0); (try rw [show ((1 : Int)).toNat = 1 from rfl] at hx247_1); (try rw [show 1 * 3 = 3 from rfl] at hx247_1); (try rw [show ((1 : Int)).toNat = 1 from rfl] at hx247_2); (try rw [show 1 * 3 = 3 from rfl] at hx247_2); replace p247 := eq_true p247; replace q247 := eq_true q247; have p248 : 0 ≤ (0 : Int) := (by omega); have q248 : 0 < (t209.length : Int) := oD; obtain ⟨ad248, A248_0, c248_0, e248, hx248_0, hl248_0, hi248_0⟩ := at_L4 (Kd.N_reads' HO211.out).2.2 0 p248 q248; obtain rfl : ad245 = ad248 := (by injection e248); obtain ⟨ce248, hce248, hMe248, hcc248⟩ := Kd.N_get HO211.out [] 0 p248 (by first | exact q248 | exact oD | (have e_ := (Kd.N_reads' HO211.out).1; omega)); obtain ⟨ua248_0, uc248_0, rfl, ul248_0, ge248_0⟩ := Kd.FK_slice_open hMe248; have hv248_0 := hcc248 0 _ rfl; rw [Nat.add_zero, show ((Kd.slice 59 k59)).sz = 1 from rfl, Nat.mul_one] at hv248_0; replace hv248_0 := Option.some.inj (hv248_0.symm.trans hx248_0); injection hv248_0 with hva_ hvn_ hvc_; rw [hva_] at ge248_0; rw [hvc_] at ul248_0; have HL248_0 := Aside0.mk (show Kd.V k59 59 _ w.heap.size _ _ (rd_L4 t209 0) from Kd.V_mk ul248_0 ge248_0); clear hva_ hvn_ hvc_ ge248_0 ul248_0; clear hcc248 hce248; have qi248 : (0 < t209.length) = True := eq_true (by omega); (try rw [show ((0 : Int)).toNat = 0 from rfl] at hx248_0); (try rw [Addr.add_zero'] at hx248_0); have HR248_0 := Aside0.mk hi248_0; have HC248_0 := Aside0.mk hl248_0; clear hi248_0 hl248_0; replace p248 := eq_true p248; replace q248 := eq_true q248; have ea_ := Option.some.inj (hx245_0.symm.trans hx248_0); injection ea_ with ea_ en_ ec_; subst ea_; subst ec_; clear en_; have p249 : 0 ≤ (1 : Int) := (by omega); have q249 : 1 < ((rd_L4 t209 0).length : Int) := oD; obtain ⟨ad249, e249, hx249_0, hx249_1, hx249_2⟩ := at_T59 (by repeat (first | (with_reducible exact HR248_0.out) | (with_reducible refine Kd.C_alloc ?_ _) | (with_reducible refine Kd.C_drewN ?_ _) | (with_reducible refine Kd.C_drew ?_) | exact HR248_0.out)) 1 p249 q249; cases e249; (try simp only [show (1 : Int).toNat = 1 from rfl, Nat.reduceMul, Nat.reduceEqDiff, Go.Addr.add, ↓reduceIte] at hx249_0); (try simp only [show (1 : Int).toNat = 1 from rfl, Nat.reduceMul, Nat.reduceEqDiff, Go.Addr.add, ↓reduceIte] at hx249_1); (try simp only [show (1 : Int).toNat = 1 from rfl, Nat.reduceMul, Nat.reduceEqDiff, Go.Addr.add, ↓reduceIte] at hx249_2); have qi249 : (1 < (rd_L4 t209 0).length) = True := eq_true (by omega); (try rw [show ((1 : Int)).toNat = 1 from rfl] at hx249_0); (try rw [show 1 * 3 = 3 from rfl] at hx249_0); (try rw [show ((1 : Int)).toNat = 1 from rfl] at hx249_1); (try rw [show 1 * 3 = 3 from rfl] at hx249_1); (try rw [show ((1 : Int)).toNat = 1 from rfl] at hx249_2); (try rw [show 1 * 3 = 3 from rfl] at hx249_2); replace p249 := eq_true p249; replace q249 := eq_true q249; have p250 : 0 ≤ (1 : Int) := (by omega); have q250 : 1 < (t209.length : Int) := oD; obtain ⟨ad250, A250_0, c250_0, e250, hx250_0, hl250_0, hi250_0⟩ := at_L4 (Kd.N_reads' HO211.out).2.2 1 p250 q250; obtain rfl : ad245 = ad250 := (by injection e250); obtain ⟨ce250, hce250, hMe250, hcc250⟩ := Kd.N_get HO211.out [] 1 p250 (by first | exact q250 | exact oD | (have e_ := (Kd.N_reads' HO211.out).1; omega)); obtain ⟨ua250_0, uc250_0, rfl, ul250_0, ge250_0⟩ := Kd.FK_slice_open hMe250; have hv250_0 := hcc250 0 _ rfl; rw [Nat.add_zero, show ((Kd.slice 59 k59)).sz = 1 from rfl, Nat.mul_one] at hv250_0; replace hv250_0 := Option.some.inj (hv250_0.symm.trans hx250_0); injection hv250_0 with hva_ hvn_ hvc_; rw [hva_] at ge250_0; rw [hvc_] at ul250_0; have HL250_0 := Aside0.mk (show Kd.V k59 59 _ w.heap.size _ _ (rd_L4 t209 1) from Kd.V_mk ul250_0 ge250_0); clear hva_ hvn_ hvc_ ge250_0 ul250_0; clear hcc250 hce250; (try simp only [show (1 : Int).toNat = 1 from rfl, Nat.reduceMul, Nat.reduceEqDiff, Go.Addr.add, ↓reduceIte] at hx250_0); have qi250 : (1 < t209.length) = True := eq_true (by omega); (try rw [show ((1 : Int)).toNat = 1 from rfl] at hx250_0); have HR250_0 := Aside0.mk hi250_0; have HC250_0 := Aside0.mk hl250_0; clear hi250_0 hl250_0; replace p250 := eq_true p250; replace q250 := eq_true q250; have p251 : 0 ≤ (1 : Int) := (by omega); have q251 : 1 < (t209.length : Int) := oD; obtain ⟨ad251, A251_0, c251_0, e251, hx251_0, hl251_0, hi251_0⟩ := at_L4 (Kd.N_reads' HO211.out).2.2 1 p251 q251; obtain rfl : ad245 = ad251 := (by injection e251); obtain ⟨ce251, hce251, hMe251, hcc251⟩ := Kd.N_get HO211.out [] 1 p251 (by first | exact q251 | exact oD | (have e_ := (Kd.N_reads' HO211.out).1; omega)); obtain ⟨ua251_0, uc251_0, rfl, ul251_0, ge251_0⟩ := Kd.FK_slice_open hMe251; have hv251_0 := hcc251 0 _ rfl; rw [Nat.add_zero, show ((Kd.slice 59 k59)).sz = 1 from rfl, Nat.mul_one] at hv251_0; replace hv251_0 := Option.some.inj (hv251_0.symm.trans hx251_0); injection hv251_0 with hva_ hvn_ hvc_; rw [hva_] at ge251_0; rw [hvc_] at ul251_0; have HL251_0 := Aside0.mk (show Kd.V k59 59 _ w.heap.size _ _ (rd_L4 t209 1) from Kd.V_mk ul251_0 ge251_0); clear hva_ hvn_ hvc_ ge251_0 ul251_0; clear hcc251 hce251; (try simp only [show (1 : Int).toNat = 1 from rfl, Nat.reduceMul, Nat.reduceEqDiff, Go.Addr.add, ↓reduceIte] at hx251_0); have qi251 : (1 < t209.length) = True := eq_true (by omega); (try rw [show ((1 : Int)).toNat = 1 from rfl] at hx251_0); have HR251_0 := Aside0.mk hi251_0; have HC251_0 := Aside0.mk hl251_0; clear hi251_0 hl251_0; replace p251 := eq_true p251; replace q251 := eq_true q251; have ea_ := Option.some.inj (hx250_0.symm.trans hx251_0); injection ea_ with ea_ en_ ec_; subst ea_; subst ec_; clear en_; have p252 : 0 ≤ (1 : Int) := (by omega); have q252 : 1 < ((rd_L4 t209 1).length : Int) := oD; obtain ⟨ad252, e252, hx252_0, hx252_1, hx252_2⟩ := at_T59 (by repeat (first | (with_reducible exact HR251_0.out) | (with_reducible refine Kd.C_alloc ?_ _) | (with_reducible refine Kd.C_drewN ?_ _) | (with_reducible refine Kd.C_drew ?_) | exact HR251_0.out)) 1 p252 q252; cases e252; (try simp only [show (1 : Int).toNat = 1 from rfl, Nat.reduceMul, Nat.reduceEqDiff, Go.Addr.add, ↓reduceIte] at hx252_0); (try simp only [show (1 : Int).toNat = 1 from rfl, Nat.reduceMul, Nat.reduceEqDiff, Go.Addr.add, ↓reduceIte] at hx252_1); (try simp only [show (1 : Int).toNat = 1 from rfl, Nat.reduceMul, Nat.reduceEqDiff, Go.Addr.add, ↓reduceIte] at hx252_2); have qi252 : (1 < (rd_L4 t209 1).length) = True := eq_true (by omega); (try rw [show ((1 : Int)).toNat = 1 from rfl] at hx252_0); (try rw [show 1 * 3 = 3 from rfl] at hx252_0); (try rw [show ((1 : Int)).toNat = 1 from rfl] at hx252_1); (try rw [show 1 * 3 = 3 from rfl] at hx252_1); (try rw [show ((1 : Int)).toNat = 1 from rfl] at hx252_2); (try rw [show 1 * 3 = 3 from rfl] at hx252_2); replace p252 := eq_true p252; replace q252 := eq_true q252; have hcz51_0 : w48.cell? ⟨gb223, 0, none⟩ = some (.int .i64 t221) := (blk_cell BK223.out 0).trans rfl; have hcz51_1 : w48.cell? ⟨gb223, 1, none⟩ = some (.int .i64 t222) := (blk_cell BK223.out 1).trans rfl; have hfz51_0 := blk_frozen BK223.out 0; have hfz51_1 := blk_frozen BK223.out 1; have hcz52_0 : w48.cell? ⟨gb232, 0, none⟩ = some (.int .i64 t230) := (blk_cell BK232.out 0).trans rfl; have hcz52_1 : w48.cell? ⟨gb232, 1, none⟩ = some (.int .i64 t231) := (blk_cell BK232.out 1).trans rfl; have hfz52_0 := blk_frozen BK232.out 0; have hfz52_1 := blk_frozen BK232.out 1; obtain ⟨Ao53, co53, eo53⟩ := Kd.V_slice HO244.out; subst eo53; have hcv54 := Kd.C_string (P := Tryd.prog) (A := Ao53) (c := co53) Tryd.underlying35 Tryd.underlying5 Tryd.underlying9 (Kd.V_reads' HO244.out).2.2))
 go_ret
 exact ⟨oE, fW HB.out⟩

end Go.Proofs.YtcgchblljhbdaaaDoor.C
