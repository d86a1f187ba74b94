-- Printed by this session's own program (wip/xprint) out of the translation. Lean checks it.
import Derived.Test.YtcgchblljhbdaaaDoorCx0
namespace Go.Proofs.YtcgchblljhbdaaaDoor.C
open Go.Proofs.YtcgchblljhbdaaaDoor
open Go.RowKit Go.Proofs.YtcgchblljhbdaaaDoorW.PrintWords Go.Proofs.YtcgchblljhbdaaaDoorW.PrintLast Go.Proofs.YtcgchblljhbdaaaDoorW.PrintMore
attribute [local go_sem] max2_int min2_int max_two min_two max_three min_three max_four min_four   -- for this text's walks alone
set_option linter.unusedVariables false
set_option linter.unusedSimpArgs false

/-! ### scan_Long: function 56 -/
def scan_Long.f (l0 : List Int) : Option (Int × Int × Bool) := if (l0.length : Int) > 1000000 then (some (2, 1000000, true)) else (some (0, 0, false))
set_option maxHeartbeats 8000000 in
set_option maxRecDepth 100000 in
theorem scan_Long.calls (A0 : Option Addr) (c0 : Nat) (l0 : List Int) (r1 : Int) (r2 : Int) (r3 : Bool) (w : World) (hr0 : Kd.C (Kd.int .u8) w A0 l0.length l0) (hc0 : l0.length ≤ c0) (h : scan_Long.f l0 = some (r1, r2, r3)) :
  Calls Tryd.prog 56 #[.slice A0 l0.length c0] w fun e w' => e = .returned (.tuple #[.agg #[.int .i64 r1, .int .i64 r2], .bool r3]) ∧ Below w.heap.size w w' := by
 have hu54 := Tryd.underlying54
 have HR0 := Aside0.mk hr0
 have HC0 := Aside0.mk hc0
 clear hr0 hc0
 have HB := Aside0.mk (Below.refl w.heap.size w)
 have H : (if (l0.length : Int) > 1000000 then (some (2, 1000000, true)) else (some (0, 0, false))) = some (r1, r2, r3) := h
 clear h
 by_cases c2 : (l0.length : Int) > 1000000
 ·rw [if_pos c2] at H
  have c2b0 := decide_eq_true c2
  have c2b1 : decide (1000000 < l0.length) = true := decide_eq_true (by omega)
  clear c2
  simp only [Option.some.injEq, Prod.mk.injEq] at H
  obtain ⟨rfl, rfl, rfl⟩ := H
  go_enter Tryd.func56, Tryd.ntmps56
  go_wp2_with (first | ((with_reducible refine gate_dst (N := 2) rfl ?_); refine bE (N := 2) (cs := #[.int .i64 0, .int .i64 0]) (t := 54) (h := ?_); intro gb101 hg w3 hbox hb; have BK101 := Aside0.mk (hbox); have GW101 := Aside0.mk (gE hg (fW HB.out)); have GE101 := GW101; replace HB := Aside0.mk (below_step (fW HB.out) hb); clear hb hbox hg; have hcz4_0 : w3.cell? ⟨gb101, 0, none⟩ = some (.int .i64 0) := (blk_cell BK101.out 0).trans rfl; have hcz4_1 : w3.cell? ⟨gb101, 1, none⟩ = some (.int .i64 0) := (blk_cell BK101.out 1).trans rfl; have hfz4_0 := blk_frozen BK101.out 0; have hfz4_1 := blk_frozen BK101.out 1))
  refine bodyPost_ret (results_ct rfl _ _ gb101 54 #[.int .i64 2, .int .i64 1000000] (0, 0) _ rfl (by refine fB (h := ?_); refine blk_put (cs := #[.int .i64 2, .int .i64 0]) ?_ 1 _ rfl; refine fB (h := ?_); refine blk_put (cs := #[.int .i64 0, .int .i64 0]) ?_ 0 _ rfl; refine fB (h := ?_); exact BK101.out) Tryd.underlying54 rfl (by kernel_rfl)) rfl ?_
  exact ⟨oE, fW HB.out⟩
 ·rw [if_neg c2] at H
  have c2b0 := decide_eq_false c2
  have c2b1 : decide (1000000 < l0.length) = false := decide_eq_false (by omega)
  clear c2
  simp only [Option.some.injEq, Prod.mk.injEq] at H
  obtain ⟨rfl, rfl, rfl⟩ := H
  go_enter Tryd.func56, Tryd.ntmps56
  go_wp2_with (first | ((with_reducible refine gate_dst (N := 2) rfl ?_); refine bE (N := 2) (cs := #[.int .i64 0, .int .i64 0]) (t := 54) (h := ?_); intro gb101 hg w5 hbox hb; have BK101 := Aside0.mk (hbox); have GW101 := Aside0.mk (gE hg (fW HB.out)); have GE101 := GW101; replace HB := Aside0.mk (below_step (fW HB.out) hb); clear hb hbox hg; have hcz6_0 : w5.cell? ⟨gb101, 0, none⟩ = some (.int .i64 0) := (blk_cell BK101.out 0).trans rfl; have hcz6_1 : w5.cell? ⟨gb101, 1, none⟩ = some (.int .i64 0) := (blk_cell BK101.out 1).trans rfl; have hfz6_0 := blk_frozen BK101.out 0; have hfz6_1 := blk_frozen BK101.out 1))
  refine bodyPost_ret (results_ct rfl _ _ gb101 54 #[.int .i64 0, .int .i64 0] (0, 0) _ rfl (by refine fB (h := ?_); refine blk_put (cs := #[.int .i64 0, .int .i64 0]) ?_ 1 _ rfl; refine fB (h := ?_); refine blk_put (cs := #[.int .i64 0, .int .i64 0]) ?_ 0 _ rfl; refine fB (h := ?_); exact BK101.out) Tryd.underlying54 rfl (by kernel_rfl)) rfl ?_
  exact ⟨oE, fW HB.out⟩

/-! ### csvr_plain: function 102 -/
def csvr_plain.f (a0 : Int) : Option (Bool) := if a0 ≥ 32 then (if a0 ≤ 126 then (if a0 = 34 then (some false) else (some (a0 != 44))) else (some false)) else (some false)
set_option maxHeartbeats 8000000 in
set_option maxRecDepth 100000 in
theorem csvr_plain.calls (a0 : Int) (r : Bool) (w : World) (h : csvr_plain.f a0 = some r) :
  Calls Tryd.prog 102 #[.int .u8 a0] w fun e w' => e = .returned (.bool r) ∧ Drawn0 w w' := by
 have H : (if a0 ≥ 32 then (if a0 ≤ 126 then (if a0 = 34 then (some false) else (some (a0 != 44))) else (some false)) else (some false)) = some r := h
 clear h
 by_cases c2 : a0 ≥ 32
 ·rw [if_pos c2] at H
  have c2b0 := decide_eq_true c2
  clear c2
  by_cases c3 : a0 ≤ 126
  ·rw [if_pos c3] at H
   have c3b0 := decide_eq_true c3
   clear c3
   by_cases c4 : a0 = 34
   ·rw [if_pos c4] at H
    have c4b0 := qT c4
    have c4b1 := nF c4
    clear c4
    obtain rfl := Option.some.inj H
    go_enter Tryd.func102, Tryd.ntmps102
    go_wp2
    go_ret
    exact ⟨by first | rfl | (simp only [i64_w]; done) | (simp; done) | (simp [*]; done), by repeat (first | exact Drawn0.refl _ | apply Drawn0.step)⟩
   ·rw [if_neg c4] at H
    have c4b0 : (a0 == 34) = false := beq_eq_false_iff_ne.mpr c4
    have c4b1 : (a0 != 34) = true := bne_iff_ne.mpr c4
    obtain rfl := Option.some.inj H
    go_enter Tryd.func102, Tryd.ntmps102
    go_wp2
    go_ret
    exact ⟨by first | rfl | (simp only [i64_w]; done) | (simp; done) | (simp [*]; done), by repeat (first | exact Drawn0.refl _ | apply Drawn0.step)⟩
  ·rw [if_neg c3] at H
   have c3b0 := decide_eq_false c3
   clear c3
   obtain rfl := Option.some.inj H
   go_enter Tryd.func102, Tryd.ntmps102
   go_wp2
   go_ret
   exact ⟨by first | rfl | (simp only [i64_w]; done) | (simp; done) | (simp [*]; done), by repeat (first | exact Drawn0.refl _ | apply Drawn0.step)⟩
 ·rw [if_neg c2] at H
  have c2b0 := decide_eq_false c2
  clear c2
  obtain rfl := Option.some.inj H
  go_enter Tryd.func102, Tryd.ntmps102
  go_wp2
  go_ret
  exact ⟨by first | rfl | (simp only [i64_w]; done) | (simp; done) | (simp [*]; done), by repeat (first | exact Drawn0.refl _ | apply Drawn0.step)⟩

/-! ### csvr_open: function 87 -/
def csvr_open.l0 : Nat → List Int → Int → Int → Option (ByteArray × Int × Int × Int)
 | 0, _, _, _ => none
 | k + 1, x0, x1, x7 => if x7 < (x0.length : Int) then (if 0 ≤ x7 then ((csvr_plain.f (rd x0 x7)).bind fun t104 => (if t104 = true then (csvr_open.l0 k x0 x1 (wrap64 (x7 + 1))) else (if (rd x0 x7) = 44 then (if 0 ≤ x1 then (if x1 ≤ x7 then (if x7 ≤ (x0.length : Int) then (some (strOfNums ((x0.take (x7 : Int).toNat).drop (x1 : Int).toNat), x7, 0, 0)) else (none)) else (none)) else (none)) else (if (rd x0 x7) = 10 then (if 0 ≤ x1 then (if x1 ≤ x7 then (if x7 ≤ (x0.length : Int) then (some (strOfNums ((x0.take (x7 : Int).toNat).drop (x1 : Int).toNat), x7, 0, 0)) else (none)) else (none)) else (none)) else (if (rd x0 x7) = 13 then (if 0 ≤ x1 then (if x1 ≤ x7 then (if x7 ≤ (x0.length : Int) then (some (strOfNums ((x0.take (x7 : Int).toNat).drop (x1 : Int).toNat), x7, 0, 0)) else (none)) else (none)) else (none)) else (some ((⟨#[]⟩ : ByteArray), 0, 1, x7))))))) else (none)) else (if 0 ≤ x1 then (if x1 ≤ x7 then (if x7 ≤ (x0.length : Int) then (some (strOfNums ((x0.take (x7 : Int).toNat).drop (x1 : Int).toNat), x7, 0, 0)) else (none)) else (none)) else (none))
def csvr_open.f (k : Nat) (l0 : List Int) (a1 : Int) : Option (ByteArray × Int × Int × Int) := csvr_open.l0 k l0 a1 a1
theorem csvr_open.mono_l : ∀ k, (∀ y0 y1 y2, LeO (csvr_open.l0 k y0 y1 y2) (csvr_open.l0 (k + 1) y0 y1 y2))
 | 0 => fun _ _ _ r h => by simp [csvr_open.l0] at h
 | k + 1 => by
  have ih0 := csvr_open.mono_l k
  ·intro y0 y1 y2
   unfold csvr_open.l0
   repeat' first
   | (with_reducible first | exact ih0 _ _ _ | exact LeO.refl _ | exact LeO.none _ | refine LeO.ite ?_ ?_ | refine LeO.bind ?_ (fun _ => ?_))
   | exact ih0 _ _ _
   | exact LeO.none _
   | refine LeO.ite ?_ ?_
   | refine LeO.bind ?_ (fun _ => ?_)
theorem csvr_open.mono : ∀ a0 a1 k, LeO (csvr_open.f k a0 a1) (csvr_open.f (k + 1) a0 a1) := by
 intro a0 a1 k
 have ih0 := csvr_open.mono_l k
 unfold csvr_open.f
 repeat' first
   | (with_reducible first | exact ih0 _ _ _ | exact LeO.refl _ | exact LeO.none _ | refine LeO.ite ?_ ?_ | refine LeO.bind ?_ (fun _ => ?_))
   | exact ih0 _ _ _
   | exact LeO.none _
   | refine LeO.ite ?_ ?_
   | refine LeO.bind ?_ (fun _ => ?_)
set_option maxHeartbeats 8000000 in
set_option maxRecDepth 100000 in
theorem csvr_open.calls (k : Nat) (A0 : Option Addr) (c0 : Nat) (l0 : List Int) (a1 : Int) (r1 : ByteArray) (r2 : Int) (r3 : Int) (r4 : Int) (w : World) (hr0 : Kd.C (Kd.int .u8) w A0 l0.length l0) (hc0 : l0.length ≤ c0) (h : csvr_open.f k l0 a1 = some (r1, r2, r3, r4)) :
  Calls Tryd.prog 87 #[.slice A0 l0.length c0, .int .i64 a1] w fun e w' => e = .returned (.tuple #[.string r1, .int .i64 r2, .agg #[.int .i64 r3, .int .i64 r4]]) ∧ Below w.heap.size w w' := by
 have hu54 := Tryd.underlying54
 have HR0 := Aside0.mk hr0
 have HC0 := Aside0.mk hc0
 clear hr0 hc0
 have HB := Aside0.mk (Below.refl w.heap.size w)
 have H : (csvr_open.l0 k l0 a1 a1) = some (r1, r2, r3, r4) := h
 clear h
 have H' := Aside0.mk H
 clear H
 go_enter Tryd.func87, Tryd.ntmps87
 go_wp2_with (first | ((with_reducible refine gate_dst (N := 6) rfl ?_); refine bE (N := 6) (cs := #[.int .i64 0, .int .i64 0]) (t := 54) (h := ?_); intro gb102 hg w3 hbox hb; have BK102 := Aside0.mk (hbox); have GW102 := Aside0.mk (gE hg (fW HB.out)); have GE102 := GW102; replace HB := Aside0.mk (below_step (fW HB.out) hb); clear hb hbox hg))
 go_loopg [7] k (fun kq v7 w' => ∃ (x7_1 : Int), v7 = .int .i64 x7_1 ∧ Aside0 (csvr_open.l0 kq l0 a1 x7_1 = some (r1, r2, r3, r4)) ∧ Aside0 (kq ≤ k) ∧ Aside0 (w'.heap[gb102]? = some (.cells #[.int .i64 0, .int .i64 0] 54 (0, 0))) ∧ Aside0 (Below w.heap.size w w'))
 case atStart => exact ⟨(a1), oR, H', ⟨Nat.le_refl _⟩, ⟨fB BK102.out⟩, ⟨fW HB.out⟩⟩
 case round =>
  clear H'
  obtain ⟨x7_1, rfl, HA, HK1, BK102, HB⟩ := hrel
  cases gk with
  | zero => exact absurd HA.out (by simp [csvr_open.l0])
  | succ k1 =>
   have H := HA.out
   clear HA
   simp only [csvr_open.l0] at H
   by_cases c4 : x7_1 < (l0.length : Int)
   ·rw [if_pos c4] at H
    have c4b0 := decide_eq_true c4
    clear c4
    obtain ⟨c5, H⟩ := eT H
    have c5b0 := decide_eq_true c5
    clear c5
    obtain ⟨t104, A60, H⟩ := bS H
    have A6 := Aside0.mk A60
    clear A60
    by_cases c7 : t104 = true
    ·subst c7
     replace H := iT H
     have H' := Aside0.mk H
     clear H
     obtain ⟨ad103, rfl, hx103_0, p103, q103⟩ := aI HB HR0 (x7_1)
     go_wp2_with (first | (go_at_call 102; (with_reducible refine (csvr_plain.calls (rd l0 x7_1) true _ A6.out).mono ?_); rintro e w' ⟨rfl, ⟨nd, rfl⟩⟩))
     go_roundg k1
     case measure => have := HK1.out; omega
     case rel => exact ⟨(wrap64 (x7_1 + 1)), oR, H', ⟨by have := HK1.out; omega⟩, ⟨fB BK102.out⟩, ⟨fW HB.out⟩⟩
    ·replace c7 := Bool.eq_false_iff.mpr c7
     subst c7
     replace H := iF H
     by_cases c8 : (rd l0 x7_1) = 44
     ·rw [if_pos c8] at H
      have c8b0 := qT c8
      have c8b1 := nF c8
      clear c8
      obtain ⟨c9, H⟩ := eT H
      have c9b0 := eq_true c9
      have c9b1 := decide_eq_true c9
      clear c9
      obtain ⟨c10, H⟩ := eT H
      have c10b0 := eq_true c10
      have c10b1 := decide_eq_true c10
      clear c10
      obtain ⟨c11, H⟩ := eT H
      have c11b0 := eq_true c11
      have c11b1 := decide_eq_true c11
      clear c11
      simp only [Option.some.injEq, Prod.mk.injEq] at H
      obtain ⟨rfl, rfl, rfl, rfl⟩ := H
      obtain ⟨ad103, rfl, hx103_0, p103, q103⟩ := aI HB HR0 (x7_1)
      go_wp2_with (first | (go_at_call 102; (with_reducible refine (csvr_plain.calls (rd l0 x7_1) false _ A6.out).mono ?_); rintro e w' ⟨rfl, ⟨nd, rfl⟩⟩; (try (rw [drewN_self wr]; generalize hq_ : World.drewN wr _ = wr; have n0_ : Aside0 (wr.heap[gb102]? = some (.cells #[.int .i64 0, .int .i64 0] 54 (0, 0))) := ⟨by rw [← hq_]; exact (fB BK102.out)⟩; have n1_ : Aside0 (Below w.heap.size w wr) := ⟨by rw [← hq_]; exact (fW HB.out)⟩; clear BK102 HB hq_; have BK102 := n0_; have HB := n1_; clear n0_ n1_)); obtain ⟨hx105_0, p105, q105⟩ := aJ HB HR0 (x7_1); obtain ⟨i012, hi012, _, hsz12, _⟩ := info_parts info5; obtain ⟨A12, hcut12, hA12, hC12⟩ := print_mid_of (P := Tryd.prog) (Value.int .u8) 0 35 5 .i64 .i64 Tryd.underlying35 hi012 hsz12 (some ad103) c0 l0 a1 x7_1 oD oM oD HC0.out; have HR106 := Aside0.mk (Kd.C_of_reads (h1 := fun _ => rfl) (hA12 _ (Kd.reads_of_C HR0.out))); have HC106 := Aside0.mk hC12; clear hA12 hC12 hi012 hsz12; have hcv13 := Kd.C_string (P := Tryd.prog) (A := A12) (c := (c0 - a1.toNat)) Tryd.underlying35 Tryd.underlying5 Tryd.underlying9 (Kd.C_below HR106.out HB.out); (try rw [XW.cut_len (l := l0) (a := a1) (b := x7_1) oM oM oM] at hcv13); (try simp only [Int.reduceToNat, Nat.sub_zero] at hcv13); have hcv13n := fun (n_ : Nat) => Kd.C_string (P := Tryd.prog) (A := A12) (c := (c0 - a1.toNat)) Tryd.underlying35 Tryd.underlying5 Tryd.underlying9 (Kd.C_drewN ((Kd.C_below HR106.out HB.out)) n_); (try rw [XW.cut_len (l := l0) (a := a1) (b := x7_1) oM oM oM] at hcv13n); (try simp only [Int.reduceToNat, Nat.sub_zero] at hcv13n); have hcz14_0 : wr.cell? ⟨gb102, 0, none⟩ = some (.int .i64 0) := (blk_cell BK102.out 0).trans rfl; have hcz14_1 : wr.cell? ⟨gb102, 1, none⟩ = some (.int .i64 0) := (blk_cell BK102.out 1).trans rfl; have hfz14_0 := blk_frozen BK102.out 0; have hfz14_1 := blk_frozen BK102.out 1))
      refine bodyPost_ret (results_list (rs := [.tmp 4, .tmp 5, .cell 6 54]) rfl (by simp) (.tmp (.tmp (.cell gb102 54 #[.int .i64 0, .int .i64 0] (0, 0) _ rfl (by refine fB (h := ?_); refine blk_put (cs := #[.int .i64 0, .int .i64 0]) ?_ 1 _ rfl; refine fB (h := ?_); refine blk_put (cs := #[.int .i64 0, .int .i64 0]) ?_ 0 _ rfl; refine fB (h := ?_); exact BK102.out) Tryd.underlying54 rfl (by kernel_rfl) .nil)))) rfl ?_
      exact ⟨oE, fW HB.out⟩
     ·rw [if_neg c8] at H
      have c8b0 : ((rd l0 x7_1) == 44) = false := beq_eq_false_iff_ne.mpr c8
      have c8b1 : ((rd l0 x7_1) != 44) = true := bne_iff_ne.mpr c8
      by_cases c15 : (rd l0 x7_1) = 10
      ·rw [if_pos c15] at H
       have c15b0 := qT c15
       have c15b1 := nF c15
       clear c15
       obtain ⟨c16, H⟩ := eT H
       have c16b0 := eq_true c16
       have c16b1 := decide_eq_true c16
       clear c16
       obtain ⟨c17, H⟩ := eT H
       have c17b0 := eq_true c17
       have c17b1 := decide_eq_true c17
       clear c17
       obtain ⟨c18, H⟩ := eT H
       have c18b0 := eq_true c18
       have c18b1 := decide_eq_true c18
       clear c18
       simp only [Option.some.injEq, Prod.mk.injEq] at H
       obtain ⟨rfl, rfl, rfl, rfl⟩ := H
       obtain ⟨ad103, rfl, hx103_0, p103, q103⟩ := aI HB HR0 (x7_1)
       go_wp2_with (first | (go_at_call 102; (with_reducible refine (csvr_plain.calls (rd l0 x7_1) false _ A6.out).mono ?_); rintro e w' ⟨rfl, ⟨nd, rfl⟩⟩; (try (rw [drewN_self wr]; generalize hq_ : World.drewN wr _ = wr; have n0_ : Aside0 (wr.heap[gb102]? = some (.cells #[.int .i64 0, .int .i64 0] 54 (0, 0))) := ⟨by rw [← hq_]; exact (fB BK102.out)⟩; have n1_ : Aside0 (Below w.heap.size w wr) := ⟨by rw [← hq_]; exact (fW HB.out)⟩; clear BK102 HB hq_; have BK102 := n0_; have HB := n1_; clear n0_ n1_)); obtain ⟨hx105_0, p105, q105⟩ := aJ HB HR0 (x7_1); obtain ⟨hx107_0, p107, q107⟩ := aJ HB HR0 (x7_1); obtain ⟨i019, hi019, _, hsz19, _⟩ := info_parts info5; obtain ⟨A19, hcut19, hA19, hC19⟩ := print_mid_of (P := Tryd.prog) (Value.int .u8) 0 35 5 .i64 .i64 Tryd.underlying35 hi019 hsz19 (some ad103) c0 l0 a1 x7_1 oD oM oD HC0.out; have HR108 := Aside0.mk (Kd.C_of_reads (h1 := fun _ => rfl) (hA19 _ (Kd.reads_of_C HR0.out))); have HC108 := Aside0.mk hC19; clear hA19 hC19 hi019 hsz19; have hcv20 := Kd.C_string (P := Tryd.prog) (A := A19) (c := (c0 - a1.toNat)) Tryd.underlying35 Tryd.underlying5 Tryd.underlying9 (Kd.C_below HR108.out HB.out); (try rw [XW.cut_len (l := l0) (a := a1) (b := x7_1) oM oM oM] at hcv20); (try simp only [Int.reduceToNat, Nat.sub_zero] at hcv20); have hcv20n := fun (n_ : Nat) => Kd.C_string (P := Tryd.prog) (A := A19) (c := (c0 - a1.toNat)) Tryd.underlying35 Tryd.underlying5 Tryd.underlying9 (Kd.C_drewN ((Kd.C_below HR108.out HB.out)) n_); (try rw [XW.cut_len (l := l0) (a := a1) (b := x7_1) oM oM oM] at hcv20n); (try simp only [Int.reduceToNat, Nat.sub_zero] at hcv20n); have hcz21_0 : wr.cell? ⟨gb102, 0, none⟩ = some (.int .i64 0) := (blk_cell BK102.out 0).trans rfl; have hcz21_1 : wr.cell? ⟨gb102, 1, none⟩ = some (.int .i64 0) := (blk_cell BK102.out 1).trans rfl; have hfz21_0 := blk_frozen BK102.out 0; have hfz21_1 := blk_frozen BK102.out 1))
       refine bodyPost_ret (results_list (rs := [.tmp 4, .tmp 5, .cell 6 54]) rfl (by simp) (.tmp (.tmp (.cell gb102 54 #[.int .i64 0, .int .i64 0] (0, 0) _ rfl (by refine fB (h := ?_); refine blk_put (cs := #[.int .i64 0, .int .i64 0]) ?_ 1 _ rfl; refine fB (h := ?_); refine blk_put (cs := #[.int .i64 0, .int .i64 0]) ?_ 0 _ rfl; refine fB (h := ?_); exact BK102.out) Tryd.underlying54 rfl (by kernel_rfl) .nil)))) rfl ?_
       exact ⟨oE, fW HB.out⟩
      ·rw [if_neg c15] at H
       have c15b0 : ((rd l0 x7_1) == 10) = false := beq_eq_false_iff_ne.mpr c15
       have c15b1 : ((rd l0 x7_1) != 10) = true := bne_iff_ne.mpr c15
       by_cases c22 : (rd l0 x7_1) = 13
       ·rw [if_pos c22] at H
        have c22b0 := qT c22
        have c22b1 := nF c22
        clear c22
        obtain ⟨c23, H⟩ := eT H
        have c23b0 := eq_true c23
        have c23b1 := decide_eq_true c23
        clear c23
        obtain ⟨c24, H⟩ := eT H
        have c24b0 := eq_true c24
        have c24b1 := decide_eq_true c24
        clear c24
        obtain ⟨c25, H⟩ := eT H
        have c25b0 := eq_true c25
        have c25b1 := decide_eq_true c25
        clear c25
        simp only [Option.some.injEq, Prod.mk.injEq] at H
        obtain ⟨rfl, rfl, rfl, rfl⟩ := H
        obtain ⟨ad103, rfl, hx103_0, p103, q103⟩ := aI HB HR0 (x7_1)
        go_wp2_with (first | (go_at_call 102; (with_reducible refine (csvr_plain.calls (rd l0 x7_1) false _ A6.out).mono ?_); rintro e w' ⟨rfl, ⟨nd, rfl⟩⟩; (try (rw [drewN_self wr]; generalize hq_ : World.drewN wr _ = wr; have n0_ : Aside0 (wr.heap[gb102]? = some (.cells #[.int .i64 0, .int .i64 0] 54 (0, 0))) := ⟨by rw [← hq_]; exact (fB BK102.out)⟩; have n1_ : Aside0 (Below w.heap.size w wr) := ⟨by rw [← hq_]; exact (fW HB.out)⟩; clear BK102 HB hq_; have BK102 := n0_; have HB := n1_; clear n0_ n1_)); obtain ⟨hx105_0, p105, q105⟩ := aJ HB HR0 (x7_1); obtain ⟨hx107_0, p107, q107⟩ := aJ HB HR0 (x7_1); obtain ⟨hx109_0, p109, q109⟩ := aJ HB HR0 (x7_1); obtain ⟨i026, hi026, _, hsz26, _⟩ := info_parts info5; obtain ⟨A26, hcut26, hA26, hC26⟩ := print_mid_of (P := Tryd.prog) (Value.int .u8) 0 35 5 .i64 .i64 Tryd.underlying35 hi026 hsz26 (some ad103) c0 l0 a1 x7_1 oD oM oD HC0.out; have HR110 := Aside0.mk (Kd.C_of_reads (h1 := fun _ => rfl) (hA26 _ (Kd.reads_of_C HR0.out))); have HC110 := Aside0.mk hC26; clear hA26 hC26 hi026 hsz26; have hcv27 := Kd.C_string (P := Tryd.prog) (A := A26) (c := (c0 - a1.toNat)) Tryd.underlying35 Tryd.underlying5 Tryd.underlying9 (Kd.C_below HR110.out HB.out); (try rw [XW.cut_len (l := l0) (a := a1) (b := x7_1) oM oM oM] at hcv27); (try simp only [Int.reduceToNat, Nat.sub_zero] at hcv27); have hcv27n := fun (n_ : Nat) => Kd.C_string (P := Tryd.prog) (A := A26) (c := (c0 - a1.toNat)) Tryd.underlying35 Tryd.underlying5 Tryd.underlying9 (Kd.C_drewN ((Kd.C_below HR110.out HB.out)) n_); (try rw [XW.cut_len (l := l0) (a := a1) (b := x7_1) oM oM oM] at hcv27n); (try simp only [Int.reduceToNat, Nat.sub_zero] at hcv27n); have hcz28_0 : wr.cell? ⟨gb102, 0, none⟩ = some (.int .i64 0) := (blk_cell BK102.out 0).trans rfl; have hcz28_1 : wr.cell? ⟨gb102, 1, none⟩ = some (.int .i64 0) := (blk_cell BK102.out 1).trans rfl; have hfz28_0 := blk_frozen BK102.out 0; have hfz28_1 := blk_frozen BK102.out 1))
        refine bodyPost_ret (results_list (rs := [.tmp 4, .tmp 5, .cell 6 54]) rfl (by simp) (.tmp (.tmp (.cell gb102 54 #[.int .i64 0, .int .i64 0] (0, 0) _ rfl (by refine fB (h := ?_); refine blk_put (cs := #[.int .i64 0, .int .i64 0]) ?_ 1 _ rfl; refine fB (h := ?_); refine blk_put (cs := #[.int .i64 0, .int .i64 0]) ?_ 0 _ rfl; refine fB (h := ?_); exact BK102.out) Tryd.underlying54 rfl (by kernel_rfl) .nil)))) rfl ?_
        exact ⟨oE, fW HB.out⟩
       ·rw [if_neg c22] at H
        have c22b0 : ((rd l0 x7_1) == 13) = false := beq_eq_false_iff_ne.mpr c22
        have c22b1 : ((rd l0 x7_1) != 13) = true := bne_iff_ne.mpr c22
        simp only [Option.some.injEq, Prod.mk.injEq] at H
        obtain ⟨rfl, rfl, rfl, rfl⟩ := H
        obtain ⟨ad103, rfl, hx103_0, p103, q103⟩ := aI HB HR0 (x7_1)
        go_wp2_with (first | (go_at_call 102; (with_reducible refine (csvr_plain.calls (rd l0 x7_1) false _ A6.out).mono ?_); rintro e w' ⟨rfl, ⟨nd, rfl⟩⟩; (try (rw [drewN_self wr]; generalize hq_ : World.drewN wr _ = wr; have n0_ : Aside0 (wr.heap[gb102]? = some (.cells #[.int .i64 0, .int .i64 0] 54 (0, 0))) := ⟨by rw [← hq_]; exact (fB BK102.out)⟩; have n1_ : Aside0 (Below w.heap.size w wr) := ⟨by rw [← hq_]; exact (fW HB.out)⟩; clear BK102 HB hq_; have BK102 := n0_; have HB := n1_; clear n0_ n1_)); obtain ⟨hx105_0, p105, q105⟩ := aJ HB HR0 (x7_1); obtain ⟨hx107_0, p107, q107⟩ := aJ HB HR0 (x7_1); obtain ⟨hx109_0, p109, q109⟩ := aJ HB HR0 (x7_1); have hcz29_0 : wr.cell? ⟨gb102, 0, none⟩ = some (.int .i64 0) := (blk_cell BK102.out 0).trans rfl; have hcz29_1 : wr.cell? ⟨gb102, 1, none⟩ = some (.int .i64 0) := (blk_cell BK102.out 1).trans rfl; have hfz29_0 := blk_frozen BK102.out 0; have hfz29_1 := blk_frozen BK102.out 1))
        refine bodyPost_ret (results_list (rs := [.tmp 4, .tmp 5, .cell 6 54]) rfl (by simp) (.tmp (.tmp (.cell gb102 54 #[.int .i64 1, .int .i64 x7_1] (0, 0) _ rfl (by refine fB (h := ?_); refine blk_put (cs := #[.int .i64 1, .int .i64 0]) ?_ 1 _ rfl; refine fB (h := ?_); refine blk_put (cs := #[.int .i64 0, .int .i64 0]) ?_ 0 _ rfl; refine fB (h := ?_); exact BK102.out) Tryd.underlying54 rfl (by kernel_rfl) .nil)))) rfl ?_
        exact ⟨oE, fW HB.out⟩
   ·rw [if_neg c4] at H
    have c4b0 := decide_eq_false c4
    clear c4
    obtain ⟨c30, H⟩ := eT H
    have c30b0 := eq_true c30
    have c30b1 := decide_eq_true c30
    clear c30
    obtain ⟨c31, H⟩ := eT H
    have c31b0 := eq_true c31
    have c31b1 := decide_eq_true c31
    clear c31
    obtain ⟨c32, H⟩ := eT H
    have c32b0 := eq_true c32
    have c32b1 := decide_eq_true c32
    clear c32
    simp only [Option.some.injEq, Prod.mk.injEq] at H
    obtain ⟨rfl, rfl, rfl, rfl⟩ := H
    obtain ⟨i033, hi033, _, hsz33, _⟩ := info_parts info5
    obtain ⟨A33, hcut33, hA33, hC33⟩ := print_mid_of (P := Tryd.prog) (Value.int .u8) 0 35 5 .i64 .i64 Tryd.underlying35 hi033 hsz33 A0 c0 l0 a1 x7_1 oD oM oD HC0.out
    have HR111 := Aside0.mk (Kd.C_of_reads (h1 := fun _ => rfl) (hA33 _ (Kd.reads_of_C HR0.out)))
    have HC111 := Aside0.mk hC33
    clear hA33 hC33 hi033 hsz33
    have hcv34 := Kd.C_string (P := Tryd.prog) (A := A33) (c := (c0 - a1.toNat)) Tryd.underlying35 Tryd.underlying5 Tryd.underlying9 (Kd.C_below HR111.out HB.out)
    (try rw [XW.cut_len (l := l0) (a := a1) (b := x7_1) oM oM oM] at hcv34)
    (try simp only [Int.reduceToNat, Nat.sub_zero] at hcv34)
    have hcv34n := fun (n_ : Nat) => Kd.C_string (P := Tryd.prog) (A := A33) (c := (c0 - a1.toNat)) Tryd.underlying35 Tryd.underlying5 Tryd.underlying9 (Kd.C_drewN ((Kd.C_below HR111.out HB.out)) n_)
    (try rw [XW.cut_len (l := l0) (a := a1) (b := x7_1) oM oM oM] at hcv34n)
    (try simp only [Int.reduceToNat, Nat.sub_zero] at hcv34n)
    have hcz35_0 : wr.cell? ⟨gb102, 0, none⟩ = some (.int .i64 0) := (blk_cell BK102.out 0).trans rfl
    have hcz35_1 : wr.cell? ⟨gb102, 1, none⟩ = some (.int .i64 0) := (blk_cell BK102.out 1).trans rfl
    have hfz35_0 := blk_frozen BK102.out 0
    have hfz35_1 := blk_frozen BK102.out 1
    go_wp2
    refine bodyPost_ret (results_list (rs := [.tmp 4, .tmp 5, .cell 6 54]) rfl (by simp) (.tmp (.tmp (.cell gb102 54 #[.int .i64 0, .int .i64 0] (0, 0) _ rfl (by refine fB (h := ?_); refine blk_put (cs := #[.int .i64 0, .int .i64 0]) ?_ 1 _ rfl; refine fB (h := ?_); refine blk_put (cs := #[.int .i64 0, .int .i64 0]) ?_ 0 _ rfl; refine fB (h := ?_); exact BK102.out) Tryd.underlying54 rfl (by kernel_rfl) .nil)))) rfl ?_
    exact ⟨oE, fW HB.out⟩

/-! ### csvr_quoted: function 88 -/
mutual
def csvr_quoted.l0 : Nat → List Int → List Int → Int → Option (ByteArray × Int × Int × Int)
 | 0, _, _, _ => none
 | k + 1, x0, x7, x8 => if x8 < (x0.length : Int) then (if 0 ≤ x8 then (if (rd x0 x8) = 34 then (if (wrap64 (x8 + 1)) < (x0.length : Int) then (if 0 ≤ (wrap64 (x8 + 1)) then (csvr_quoted.j1 k x0 x7 x8 (rd x0 x8) ((rd x0 (wrap64 (x8 + 1))) == 34)) else (none)) else (csvr_quoted.j1 k x0 x7 x8 (rd x0 x8) false)) else (csvr_quoted.j1 k x0 x7 x8 (rd x0 x8) false)) else (none)) else (some ((⟨#[]⟩ : ByteArray), 0, 1, (x0.length : Int)))
def csvr_quoted.j1 : Nat → List Int → List Int → Int → Int → Bool → Option (ByteArray × Int × Int × Int)
 | 0, _, _, _, _, _ => none
 | k + 1, x0, x7, x8, x9, x22 => if x22 = true then (if x7.length < 140737488355328 then (csvr_quoted.l0 k x0 (x7 ++ [x9]) (wrap64 ((wrap64 (x8 + 1)) + 1))) else (none)) else (if x9 = 34 then (some (strOfNums x7, wrap64 (x8 + 1), 0, 0)) else ((csvr_plain.f x9).bind fun t118 => (if t118 = true then (if x7.length < 140737488355328 then (csvr_quoted.l0 k x0 (x7 ++ [x9]) (wrap64 (x8 + 1))) else (none)) else (if x9 = 44 then (if x7.length < 140737488355328 then (csvr_quoted.l0 k x0 (x7 ++ [x9]) (wrap64 (x8 + 1))) else (none)) else (if x9 = 10 then (if x7.length < 140737488355328 then (csvr_quoted.l0 k x0 (x7 ++ [x9]) (wrap64 (x8 + 1))) else (none)) else (if x9 = 13 then (if x7.length < 140737488355328 then (csvr_quoted.l0 k x0 (x7 ++ [x9]) (wrap64 (x8 + 1))) else (none)) else (some ((⟨#[]⟩ : ByteArray), 0, 1, x8))))))))
end
def csvr_quoted.f (k : Nat) (l0 : List Int) (a1 : Int) : Option (ByteArray × Int × Int × Int) := csvr_quoted.l0 k l0 ([] : List Int) (wrap64 (a1 + 1))
theorem csvr_quoted.mono_l : ∀ k, (∀ y0 y1 y2, LeO (csvr_quoted.l0 k y0 y1 y2) (csvr_quoted.l0 (k + 1) y0 y1 y2)) ∧ (∀ y0 y1 y2 y3 y4, LeO (csvr_quoted.j1 k y0 y1 y2 y3 y4) (csvr_quoted.j1 (k + 1) y0 y1 y2 y3 y4))
 | 0 => ⟨fun _ _ _ r h => by simp [csvr_quoted.l0] at h, fun _ _ _ _ _ r h => by simp [csvr_quoted.j1] at h⟩
 | k + 1 => by
  obtain ⟨ih0, ih1⟩ := csvr_quoted.mono_l k
  refine ⟨?_, ?_⟩
  ·intro y0 y1 y2
   unfold csvr_quoted.l0
   repeat' first
   | (with_reducible first | exact ih0 _ _ _ | exact ih1 _ _ _ _ _ | exact LeO.refl _ | exact LeO.none _ | refine LeO.ite ?_ ?_ | refine LeO.bind ?_ (fun _ => ?_))
   | exact ih0 _ _ _
   | exact ih1 _ _ _ _ _
   | exact LeO.none _
   | refine LeO.ite ?_ ?_
   | refine LeO.bind ?_ (fun _ => ?_)
  ·intro y0 y1 y2 y3 y4
   unfold csvr_quoted.j1
   repeat' first
   | (with_reducible first | exact ih0 _ _ _ | exact ih1 _ _ _ _ _ | exact LeO.refl _ | exact LeO.none _ | refine LeO.ite ?_ ?_ | refine LeO.bind ?_ (fun _ => ?_))
   | exact ih0 _ _ _
   | exact ih1 _ _ _ _ _
   | exact LeO.none _
   | refine LeO.ite ?_ ?_
   | refine LeO.bind ?_ (fun _ => ?_)
theorem csvr_quoted.mono : ∀ a0 a1 k, LeO (csvr_quoted.f k a0 a1) (csvr_quoted.f (k + 1) a0 a1) := by
 intro a0 a1 k
 obtain ⟨ih0, ih1⟩ := csvr_quoted.mono_l k
 unfold csvr_quoted.f
 repeat' first
   | (with_reducible first | exact ih0 _ _ _ | exact ih1 _ _ _ _ _ | exact LeO.refl _ | exact LeO.none _ | refine LeO.ite ?_ ?_ | refine LeO.bind ?_ (fun _ => ?_))
   | exact ih0 _ _ _
   | exact ih1 _ _ _ _ _
   | exact LeO.none _
   | refine LeO.ite ?_ ?_
   | refine LeO.bind ?_ (fun _ => ?_)
set_option maxHeartbeats 8000000 in
set_option maxRecDepth 100000 in
theorem csvr_quoted.calls (k : Nat) (A0 : Option Addr) (c0 : Nat) (l0 : List Int) (a1 : Int) (r1 : ByteArray) (r2 : Int) (r3 : Int) (r4 : Int) (w : World) (hr0 : Kd.C (Kd.int .u8) w A0 l0.length l0) (hc0 : l0.length ≤ c0) (h : csvr_quoted.f k l0 a1 = some (r1, r2, r3, r4)) :
  Calls Tryd.prog 88 #[.slice A0 l0.length c0, .int .i64 a1] w fun e w' => e = .returned (.tuple #[.string r1, .int .i64 r2, .agg #[.int .i64 r3, .int .i64 r4]]) ∧ Below w.heap.size w w' := by
 have hu54 := Tryd.underlying54
 have HR0 := Aside0.mk hr0
 have HC0 := Aside0.mk hc0
 clear hr0 hc0
 have HB := Aside0.mk (Below.refl w.heap.size w)
 have H : (csvr_quoted.l0 k l0 ([] : List Int) (wrap64 (a1 + 1))) = some (r1, r2, r3, r4) := h
 clear h
 have H' := Aside0.mk H
 clear H
 go_enter Tryd.func88, Tryd.ntmps88
 go_wp2_with (first | ((with_reducible refine gate_dst (N := 6) rfl ?_); (try (refine gate_guard (by rfl) ?_; dsimp only)); refine bE (N := 6) (cs := #[.int .i64 0, .int .i64 0]) (t := 54) (h := ?_); intro gb112 hg w3 hbox hb; have BK112 := Aside0.mk (hbox); have GW112 := Aside0.mk (gE hg (fW HB.out)); have GE112 := GW112; replace HB := Aside0.mk (below_step (fW HB.out) hb); clear hb hbox hg))
 go_loopg [7, 8] k (fun kq v7 v8 w' => ∃ (x7_1 : List Int) (x8_1 : Int) (x113000_1 : Int) (x113001_1 : Int), v8 = .int .i64 x8_1 ∧ Aside0 (csvr_quoted.l0 kq l0 x7_1 x8_1 = some (r1, r2, r3, r4)) ∧ Aside0 (kq ≤ k) ∧ Aside0 (Kd.R (Kd.int .u8) 5 w' w.heap.size (fun _ => True) v7 x7_1) ∧ Aside0 (w'.heap[gb112]? = some (.cells #[.int .i64 x113000_1, .int .i64 x113001_1] 54 (0, 0))) ∧ Aside0 (Below w.heap.size w w'))
 case atStart => exact ⟨(([] : List Int)), (wrap64 (a1 + 1)), (0), (0), oR, H', ⟨Nat.le_refl _⟩, ⟨by first | exact Kd.R_nil _ _ _ _ _ | exact Kd.N_nil _ _ _ _ _ | exact Kd.V_nil _ _ _ _ _ | exact Kd.Q_nil _ _ _ _ _ | exact Kd.S_nil _ _ _ _ _⟩, ⟨fB BK112.out⟩, ⟨fW HB.out⟩⟩
 case round =>
  clear H'
  obtain ⟨x7_1, x8_1, x113000_1, x113001_1, rfl, HA, HK1, HO_7, BK112, HB⟩ := hrel
  cases gk with
  | zero => exact absurd HA.out (by simp [csvr_quoted.l0])
  | succ k1 =>
   have H := HA.out
   clear HA
   simp only [csvr_quoted.l0] at H
   by_cases c4 : x8_1 < (l0.length : Int)
   ·rw [if_pos c4] at H
    have c4b0 := decide_eq_true c4
    clear c4
    obtain ⟨c5, H⟩ := eT H
    have c5b0 := decide_eq_true c5
    clear c5
    have HC6 := Aside0.mk H
    clear H
    obtain ⟨ad113, rfl, hx113_0, p113, q113⟩ := aI HB HR0 (x8_1)
    go_upto_region 6 with (fail)
    go_cut [22] (fun v22 wc => ∃ (kq : Nat) (x22_5 : Bool), v22 = .bool x22_5 ∧ Aside0 (csvr_quoted.j1 kq l0 x7_1 x8_1 (rd l0 x8_1) x22_5 = some (r1, r2, r3, r4)) ∧ Aside0 (kq ≤ k1) ∧ Aside0 (Kd.R (Kd.int .u8) 5 wc w.heap.size (fun _ => True) u7 x7_1) ∧ Aside0 (wc.heap[gb112]? = some (.cells #[.int .i64 x113000_1, .int .i64 x113001_1] 54 (0, 0))) ∧ Aside0 (Below w.heap.size w wc))
    case first =>
     have H := HC6.out
     clear HC6
     by_cases c7 : (rd l0 x8_1) = 34
     ·rw [if_pos c7] at H
      have c7b0 := qT c7
      have c7b1 := nF c7
      clear c7
      (first | rw [c7b0] | (simp only [i64_w, i32_w]; rw [c7b0]) | skip)
      by_cases c8 : (wrap64 (x8_1 + 1)) < (l0.length : Int)
      ·rw [if_pos c8] at H
       have c8b0 := decide_eq_true c8
       clear c8
       obtain ⟨ji9, hji9⟩ : ∃ j_ : Int, (wrap64 (x8_1 + 1)) = j_ := ⟨_, rfl⟩
       replace H : (if 0 ≤ (ji9) then (csvr_quoted.j1 k1 l0 x7_1 x8_1 (rd l0 x8_1) ((rd l0 (ji9)) == 34)) else (none)) = some (r1, r2, r3, r4) := by first | (rw [hji9] at H; exact H) | (simp only [hji9] at H ⊢; exact H)
       (try rw [hji9] at c8b0)
       have hji9w : (IntKind.i64.wrap (x8_1 + 1)) = ji9 := (i64_w _).trans hji9
       obtain ⟨c10, H⟩ := eT H
       have c10b0 := decide_eq_true c10
       clear c10
       have H' := Aside0.mk H
       clear H
       obtain ⟨hx114_0, p114, q114⟩ := aJ HB HR0 ((ji9))
       go_wp2
       go_meet
       case rel => exact ⟨_, (((rd l0 (ji9)) == 34)), (by first | rfl | (simp; done) | (simp only [← hji9] <;> (first | rfl | simp)) | (simp [*]; done)), H', ⟨by have := HK1.out; first | omega | exact Nat.le_refl _⟩, ⟨fR HO_7.out⟩, ⟨fB BK112.out⟩, ⟨fW HB.out⟩⟩
      ·rw [if_neg c8] at H
       have c8b0 := decide_eq_false c8
       clear c8
       have H' := Aside0.mk H
       clear H
       go_wp2
       go_meet
       case rel => exact ⟨_, (false), oR, H', ⟨by have := HK1.out; first | omega | exact Nat.le_refl _⟩, ⟨fR HO_7.out⟩, ⟨fB BK112.out⟩, ⟨fW HB.out⟩⟩
     ·rw [if_neg c7] at H
      have c7b0 : ((rd l0 x8_1) == 34) = false := beq_eq_false_iff_ne.mpr c7
      have c7b1 : ((rd l0 x8_1) != 34) = true := bne_iff_ne.mpr c7
      (first | rw [c7b0] | (simp only [i64_w, i32_w]; rw [c7b0]) | skip)
      have H' := Aside0.mk H
      clear H
      go_wp2
      go_meet
      case rel => exact ⟨_, (false), oR, H', ⟨by have := HK1.out; first | omega | exact Nat.le_refl _⟩, ⟨fR HO_7.out⟩, ⟨fB BK112.out⟩, ⟨fW HB.out⟩⟩
    case rest =>
     clear HC6
     try clear c4; try clear c4b0; try clear c5; try clear c5b0; try clear c7; try clear c7b0; try clear c7b1; try clear c8; try clear c8b0; try clear c10; try clear c10b0; try clear hx113_0; try clear hx114_0; try clear p113; try clear p114; try clear q113; try clear q114
     obtain ⟨kq, x22_5, rfl, HA, HJ5, HO_7, BK112, HB⟩ := hcut
     cases kq with
     | zero => exact absurd HA.out (by simp [csvr_quoted.j1])
     | succ kj5 =>
      have H := HA.out
      clear HA
      simp only [csvr_quoted.j1] at H
      by_cases c11 : x22_5 = true
      ·subst c11
       replace H := iT H
       obtain ⟨c12, H⟩ := eT H
       have LMc12 := Aside0.mk c12
       clear c12
       obtain ⟨y115, hy115⟩ : ∃ y_ : List Int, y_ = (x7_1 ++ [(rd l0 x8_1)]) := ⟨_, rfl⟩
       replace H : (csvr_quoted.l0 kj5 l0 y115 (wrap64 ((wrap64 (x8_1 + 1)) + 1))) = some (r1, r2, r3, r4) := by first | (rw [hy115]; with_reducible exact H) | (have H2_ := (Option.bind_some _ _).symm.trans H; rw [hy115]; with_reducible exact H2_) | (have H2_ := (Option.bind_some _ _).symm.trans H; with_reducible exact H2_) | with_reducible exact H | (rw [hy115]; exact H) | exact H
       have Ny115 := Aside0.mk hy115
       clear hy115
       have H' := Aside0.mk H
       clear H
       go_wp2_with (first | ((with_reducible refine gate_builtin (b := .append) (xs := #[.tmp 68, .tmp 70]) rfl ?_); (try (refine gate_guard (by rfl) ?_; dsimp only)); at_builtin; refine Kd.R_append (Kd.int .u8) (w0 := w) w.heap.size rfl (.tmp 68) (.tmp 70) 35 5 (.int .u8 0) 1 rfl Tryd.underlying35 info5 rfl (by decide) (by omega) u7 x7_1 (rd l0 x8_1) [.int .u8 (rd l0 x8_1)] (fun _ => True) (fun _ => False) rfl rfl ?aP (fun _ hk => hk.elim) ?aF ?aO ?aB ?aS ?aL ?_; (case aP => exact rfl); (case aB => exact (fW HB.out)); (case aF => exact (fun _ _ => trivial)); (case aO => exact (fR HO_7.out)); (case aS => exact (below_size (fW HB.out))); (case aL => have := LMc12.out; omega); intro v116 w13 ho hb hg hat; rw [← Ny115.out] at ho; replace BK112 := Aside0.mk (blk_grown (g := gb112) (o := .cells #[.int .i64 x113000_1, .int .i64 x113001_1] 54 (0, 0)) (fB BK112.out) hg (Kd.R_ne HO_7.out BK112.out (by decide))); replace HB := Aside0.mk (hb); have HO117 := Aside0.mk (ho); clear HO_7; clear ho hb hg hat))
       go_roundg kj5
       case measure => have := HK1.out; have := HJ5.out; omega
       case rel => exact ⟨(y115), (wrap64 ((wrap64 (x8_1 + 1)) + 1)), (x113000_1), (x113001_1), oR, H', ⟨by have := HK1.out; have := HJ5.out; omega⟩, ⟨fR HO117.out⟩, ⟨fB BK112.out⟩, ⟨fW HB.out⟩⟩
      ·replace c11 := Bool.eq_false_iff.mpr c11
       subst c11
       replace H := iF H
       by_cases c14 : (rd l0 x8_1) = 34
       ·rw [if_pos c14] at H
        have c14b0 := qT c14
        have c14b1 := nF c14
        clear c14
        simp only [Option.some.injEq, Prod.mk.injEq] at H
        obtain ⟨rfl, rfl, rfl, rfl⟩ := H
        have hcv15 := own_string (P := Tryd.prog) Tryd.underlying35 Tryd.underlying5 Tryd.underlying9 (Kd.own_of_R HO_7.out)
        have hcz16_0 : wc.cell? ⟨gb112, 0, none⟩ = some (.int .i64 x113000_1) := (blk_cell BK112.out 0).trans rfl
        have hcz16_1 : wc.cell? ⟨gb112, 1, none⟩ = some (.int .i64 x113001_1) := (blk_cell BK112.out 1).trans rfl
        have hfz16_0 := blk_frozen BK112.out 0
        have hfz16_1 := blk_frozen BK112.out 1
        go_wp2
        refine bodyPost_ret (results_list (rs := [.tmp 4, .tmp 5, .cell 6 54]) rfl (by simp) (.tmp (.tmp (.cell gb112 54 #[.int .i64 0, .int .i64 0] (0, 0) _ rfl (by refine fB (h := ?_); refine blk_put (cs := #[.int .i64 0, .int .i64 x113001_1]) ?_ 1 _ rfl; refine fB (h := ?_); refine blk_put (cs := #[.int .i64 x113000_1, .int .i64 x113001_1]) ?_ 0 _ rfl; refine fB (h := ?_); exact BK112.out) Tryd.underlying54 rfl (by kernel_rfl) .nil)))) rfl ?_
        exact ⟨oE, fW HB.out⟩
       ·rw [if_neg c14] at H
        have c14b0 : ((rd l0 x8_1) == 34) = false := beq_eq_false_iff_ne.mpr c14
        have c14b1 : ((rd l0 x8_1) != 34) = true := bne_iff_ne.mpr c14
        obtain ⟨t118, A170, H⟩ := bS H
        have A17 := Aside0.mk A170
        clear A170
        by_cases c18 : t118 = true
        ·subst c18
         replace H := iT H
         obtain ⟨c19, H⟩ := eT H
         have LMc19 := Aside0.mk c19
         clear c19
         obtain ⟨y119, hy119⟩ : ∃ y_ : List Int, y_ = (x7_1 ++ [(rd l0 x8_1)]) := ⟨_, rfl⟩
         replace H : (csvr_quoted.l0 kj5 l0 y119 (wrap64 (x8_1 + 1))) = some (r1, r2, r3, r4) := by first | (rw [hy119]; with_reducible exact H) | (have H2_ := (Option.bind_some _ _).symm.trans H; rw [hy119]; with_reducible exact H2_) | (have H2_ := (Option.bind_some _ _).symm.trans H; with_reducible exact H2_) | with_reducible exact H | (rw [hy119]; exact H) | exact H
         have Ny119 := Aside0.mk hy119
         clear hy119
         have H' := Aside0.mk H
         clear H
         go_wp2_with (first | ((with_reducible refine gate_callee (f := 102) rfl ?_); refine goesL_ (some 52) rfl rfl Tryd.func102 (by kernel_rfl) rfl #[.int .u8 (rd l0 x8_1)] rfl oA ?_; (with_reducible refine (csvr_plain.calls (rd l0 x8_1) true _ A17.out).mono ?_); rintro e w' ⟨rfl, ⟨nd, rfl⟩⟩; refine ⟨_, rfl, ?_⟩) | ((with_reducible refine gate_builtin (b := .append) (xs := #[.tmp 68, .tmp 70]) rfl ?_); (try (refine gate_guard (by rfl) ?_; dsimp only)); at_builtin; refine Kd.R_append (Kd.int .u8) (w0 := w) w.heap.size rfl (.tmp 68) (.tmp 70) 35 5 (.int .u8 0) 1 rfl Tryd.underlying35 info5 rfl (by decide) (by omega) u7 x7_1 (rd l0 x8_1) [.int .u8 (rd l0 x8_1)] (fun _ => True) (fun _ => False) rfl rfl ?aP (fun _ hk => hk.elim) ?aF ?aO ?aB ?aS ?aL ?_; (case aP => exact rfl); (case aB => exact (fW HB.out)); (case aF => exact (fun _ _ => trivial)); (case aO => exact (fR HO_7.out)); (case aS => exact (below_size (fW HB.out))); (case aL => have := LMc19.out; omega); intro v120 w20 ho hb hg hat; rw [← Ny119.out] at ho; replace BK112 := Aside0.mk (blk_grown (g := gb112) (o := .cells #[.int .i64 x113000_1, .int .i64 x113001_1] 54 (0, 0)) (fB BK112.out) hg (Kd.R_ne HO_7.out BK112.out (by decide))); replace HB := Aside0.mk (hb); have HO121 := Aside0.mk (ho); clear HO_7; clear ho hb hg hat))
         go_roundg kj5
         case measure => have := HK1.out; have := HJ5.out; omega
         case rel => exact ⟨(y119), (wrap64 (x8_1 + 1)), (x113000_1), (x113001_1), oR, H', ⟨by have := HK1.out; have := HJ5.out; omega⟩, ⟨fR HO121.out⟩, ⟨fB BK112.out⟩, ⟨fW HB.out⟩⟩
        ·replace c18 := Bool.eq_false_iff.mpr c18
         subst c18
         replace H := iF H
         by_cases c21 : (rd l0 x8_1) = 44
         ·rw [if_pos c21] at H
          have c21b0 := qT c21
          have c21b1 := nF c21
          clear c21
          obtain ⟨c22, H⟩ := eT H
          have LMc22 := Aside0.mk c22
          clear c22
          obtain ⟨y122, hy122⟩ : ∃ y_ : List Int, y_ = (x7_1 ++ [(rd l0 x8_1)]) := ⟨_, rfl⟩
          replace H : (csvr_quoted.l0 kj5 l0 y122 (wrap64 (x8_1 + 1))) = some (r1, r2, r3, r4) := by first | (rw [hy122]; with_reducible exact H) | (have H2_ := (Option.bind_some _ _).symm.trans H; rw [hy122]; with_reducible exact H2_) | (have H2_ := (Option.bind_some _ _).symm.trans H; with_reducible exact H2_) | with_reducible exact H | (rw [hy122]; exact H) | exact H
          have Ny122 := Aside0.mk hy122
          clear hy122
          have H' := Aside0.mk H
          clear H
          go_wp2_with (first | ((with_reducible refine gate_callee (f := 102) rfl ?_); refine goesL_ (some 52) rfl rfl Tryd.func102 (by kernel_rfl) rfl #[.int .u8 (rd l0 x8_1)] rfl oA ?_; (with_reducible refine (csvr_plain.calls (rd l0 x8_1) false _ A17.out).mono ?_); rintro e w' ⟨rfl, ⟨nd, rfl⟩⟩; refine ⟨_, rfl, ?_⟩) | ((with_reducible refine gate_builtin (b := .append) (xs := #[.tmp 68, .tmp 70]) rfl ?_); (try (refine gate_guard (by rfl) ?_; dsimp only)); at_builtin; refine Kd.R_append (Kd.int .u8) (w0 := w) w.heap.size rfl (.tmp 68) (.tmp 70) 35 5 (.int .u8 0) 1 rfl Tryd.underlying35 info5 rfl (by decide) (by omega) u7 x7_1 (rd l0 x8_1) [.int .u8 (rd l0 x8_1)] (fun _ => True) (fun _ => False) rfl rfl ?aP (fun _ hk => hk.elim) ?aF ?aO ?aB ?aS ?aL ?_; (case aP => exact rfl); (case aB => exact (fW HB.out)); (case aF => exact (fun _ _ => trivial)); (case aO => exact (fR HO_7.out)); (case aS => exact (below_size (fW HB.out))); (case aL => have := LMc22.out; omega); intro v123 w23 ho hb hg hat; rw [← Ny122.out] at ho; replace BK112 := Aside0.mk (blk_grown (g := gb112) (o := .cells #[.int .i64 x113000_1, .int .i64 x113001_1] 54 (0, 0)) (fB BK112.out) hg (Kd.R_ne HO_7.out BK112.out (by decide))); replace HB := Aside0.mk (hb); have HO124 := Aside0.mk (ho); clear HO_7; clear ho hb hg hat))
          go_roundg kj5
          case measure => have := HK1.out; have := HJ5.out; omega
          case rel => exact ⟨(y122), (wrap64 (x8_1 + 1)), (x113000_1), (x113001_1), oR, H', ⟨by have := HK1.out; have := HJ5.out; omega⟩, ⟨fR HO124.out⟩, ⟨fB BK112.out⟩, ⟨fW HB.out⟩⟩
         ·rw [if_neg c21] at H
          have c21b0 : ((rd l0 x8_1) == 44) = false := beq_eq_false_iff_ne.mpr c21
          have c21b1 : ((rd l0 x8_1) != 44) = true := bne_iff_ne.mpr c21
          by_cases c24 : (rd l0 x8_1) = 10
          ·rw [if_pos c24] at H
           have c24b0 := qT c24
           have c24b1 := nF c24
           clear c24
           obtain ⟨c25, H⟩ := eT H
           have LMc25 := Aside0.mk c25
           clear c25
           obtain ⟨y125, hy125⟩ : ∃ y_ : List Int, y_ = (x7_1 ++ [(rd l0 x8_1)]) := ⟨_, rfl⟩
           replace H : (csvr_quoted.l0 kj5 l0 y125 (wrap64 (x8_1 + 1))) = some (r1, r2, r3, r4) := by first | (rw [hy125]; with_reducible exact H) | (have H2_ := (Option.bind_some _ _).symm.trans H; rw [hy125]; with_reducible exact H2_) | (have H2_ := (Option.bind_some _ _).symm.trans H; with_reducible exact H2_) | with_reducible exact H | (rw [hy125]; exact H) | exact H
           have Ny125 := Aside0.mk hy125
           clear hy125
           have H' := Aside0.mk H
           clear H
           go_wp2_with (first | ((with_reducible refine gate_callee (f := 102) rfl ?_); refine goesL_ (some 52) rfl rfl Tryd.func102 (by kernel_rfl) rfl #[.int .u8 (rd l0 x8_1)] rfl oA ?_; (with_reducible refine (csvr_plain.calls (rd l0 x8_1) false _ A17.out).mono ?_); rintro e w' ⟨rfl, ⟨nd, rfl⟩⟩; refine ⟨_, rfl, ?_⟩) | ((with_reducible refine gate_builtin (b := .append) (xs := #[.tmp 68, .tmp 70]) rfl ?_); (try (refine gate_guard (by rfl) ?_; dsimp only)); at_builtin; refine Kd.R_append (Kd.int .u8) (w0 := w) w.heap.size rfl (.tmp 68) (.tmp 70) 35 5 (.int .u8 0) 1 rfl Tryd.underlying35 info5 rfl (by decide) (by omega) u7 x7_1 (rd l0 x8_1) [.int .u8 (rd l0 x8_1)] (fun _ => True) (fun _ => False) rfl rfl ?aP (fun _ hk => hk.elim) ?aF ?aO ?aB ?aS ?aL ?_; (case aP => exact rfl); (case aB => exact (fW HB.out)); (case aF => exact (fun _ _ => trivial)); (case aO => exact (fR HO_7.out)); (case aS => exact (below_size (fW HB.out))); (case aL => have := LMc25.out; omega); intro v126 w26 ho hb hg hat; rw [← Ny125.out] at ho; replace BK112 := Aside0.mk (blk_grown (g := gb112) (o := .cells #[.int .i64 x113000_1, .int .i64 x113001_1] 54 (0, 0)) (fB BK112.out) hg (Kd.R_ne HO_7.out BK112.out (by decide))); replace HB := Aside0.mk (hb); have HO127 := Aside0.mk (ho); clear HO_7; clear ho hb hg hat))
           go_roundg kj5
           case measure => have := HK1.out; have := HJ5.out; omega
           case rel => exact ⟨(y125), (wrap64 (x8_1 + 1)), (x113000_1), (x113001_1), oR, H', ⟨by have := HK1.out; have := HJ5.out; omega⟩, ⟨fR HO127.out⟩, ⟨fB BK112.out⟩, ⟨fW HB.out⟩⟩
          ·rw [if_neg c24] at H
           have c24b0 : ((rd l0 x8_1) == 10) = false := beq_eq_false_iff_ne.mpr c24
           have c24b1 : ((rd l0 x8_1) != 10) = true := bne_iff_ne.mpr c24
           by_cases c27 : (rd l0 x8_1) = 13
           ·rw [if_pos c27] at H
            have c27b0 := qT c27
            have c27b1 := nF c27
            clear c27
            obtain ⟨c28, H⟩ := eT H
            have LMc28 := Aside0.mk c28
            clear c28
            obtain ⟨y128, hy128⟩ : ∃ y_ : List Int, y_ = (x7_1 ++ [(rd l0 x8_1)]) := ⟨_, rfl⟩
            replace H : (csvr_quoted.l0 kj5 l0 y128 (wrap64 (x8_1 + 1))) = some (r1, r2, r3, r4) := by first | (rw [hy128]; with_reducible exact H) | (have H2_ := (Option.bind_some _ _).symm.trans H; rw [hy128]; with_reducible exact H2_) | (have H2_ := (Option.bind_some _ _).symm.trans H; with_reducible exact H2_) | with_reducible exact H | (rw [hy128]; exact H) | exact H
            have Ny128 := Aside0.mk hy128
            clear hy128
            have H' := Aside0.mk H
            clear H
            go_wp2_with (first | ((with_reducible refine gate_callee (f := 102) rfl ?_); refine goesL_ (some 52) rfl rfl Tryd.func102 (by kernel_rfl) rfl #[.int .u8 (rd l0 x8_1)] rfl oA ?_; (with_reducible refine (csvr_plain.calls (rd l0 x8_1) false _ A17.out).mono ?_); rintro e w' ⟨rfl, ⟨nd, rfl⟩⟩; refine ⟨_, rfl, ?_⟩) | ((with_reducible refine gate_builtin (b := .append) (xs := #[.tmp 68, .tmp 70]) rfl ?_); (try (refine gate_guard (by rfl) ?_; dsimp only)); at_builtin; refine Kd.R_append (Kd.int .u8) (w0 := w) w.heap.size rfl (.tmp 68) (.tmp 70) 35 5 (.int .u8 0) 1 rfl Tryd.underlying35 info5 rfl (by decide) (by omega) u7 x7_1 (rd l0 x8_1) [.int .u8 (rd l0 x8_1)] (fun _ => True) (fun _ => False) rfl rfl ?aP (fun _ hk => hk.elim) ?aF ?aO ?aB ?aS ?aL ?_; (case aP => exact rfl); (case aB => exact (fW HB.out)); (case aF => exact (fun _ _ => trivial)); (case aO => exact (fR HO_7.out)); (case aS => exact (below_size (fW HB.out))); (case aL => have := LMc28.out; omega); intro v129 w29 ho hb hg hat; rw [← Ny128.out] at ho; replace BK112 := Aside0.mk (blk_grown (g := gb112) (o := .cells #[.int .i64 x113000_1, .int .i64 x113001_1] 54 (0, 0)) (fB BK112.out) hg (Kd.R_ne HO_7.out BK112.out (by decide))); replace HB := Aside0.mk (hb); have HO130 := Aside0.mk (ho); clear HO_7; clear ho hb hg hat))
            go_roundg kj5
            case measure => have := HK1.out; have := HJ5.out; omega
            case rel => exact ⟨(y128), (wrap64 (x8_1 + 1)), (x113000_1), (x113001_1), oR, H', ⟨by have := HK1.out; have := HJ5.out; omega⟩, ⟨fR HO130.out⟩, ⟨fB BK112.out⟩, ⟨fW HB.out⟩⟩
           ·rw [if_neg c27] at H
            have c27b0 : ((rd l0 x8_1) == 13) = false := beq_eq_false_iff_ne.mpr c27
            have c27b1 : ((rd l0 x8_1) != 13) = true := bne_iff_ne.mpr c27
            simp only [Option.some.injEq, Prod.mk.injEq] at H
            obtain ⟨rfl, rfl, rfl, rfl⟩ := H
            go_wp2_with (first | ((with_reducible refine gate_callee (f := 102) rfl ?_); refine goesL_ (some 52) rfl rfl Tryd.func102 (by kernel_rfl) rfl #[.int .u8 (rd l0 x8_1)] rfl oA ?_; (with_reducible refine (csvr_plain.calls (rd l0 x8_1) false _ A17.out).mono ?_); rintro e w' ⟨rfl, ⟨nd, rfl⟩⟩; refine ⟨_, rfl, ?_⟩; (try (rw [drewN_self wc]; generalize hq_ : World.drewN wc _ = wc; have n0_ : Aside0 (Kd.R (Kd.int .u8) 5 wc w.heap.size (fun _ => True) u7 x7_1) := ⟨by rw [← hq_]; exact (fR HO_7.out)⟩; have n1_ : Aside0 (wc.heap[gb112]? = some (.cells #[.int .i64 x113000_1, .int .i64 x113001_1] 54 (0, 0))) := ⟨by rw [← hq_]; exact (fB BK112.out)⟩; have n2_ : Aside0 (Below w.heap.size w wc) := ⟨by rw [← hq_]; exact (fW HB.out)⟩; clear HO_7 BK112 HB hq_; have HO_7 := n0_; have BK112 := n1_; have HB := n2_; clear n0_ n1_ n2_)); have hcz30_0 : wc.cell? ⟨gb112, 0, none⟩ = some (.int .i64 x113000_1) := (blk_cell BK112.out 0).trans rfl; have hcz30_1 : wc.cell? ⟨gb112, 1, none⟩ = some (.int .i64 x113001_1) := (blk_cell BK112.out 1).trans rfl; have hfz30_0 := blk_frozen BK112.out 0; have hfz30_1 := blk_frozen BK112.out 1))
            refine bodyPost_ret (results_list (rs := [.tmp 4, .tmp 5, .cell 6 54]) rfl (by simp) (.tmp (.tmp (.cell gb112 54 #[.int .i64 1, .int .i64 x8_1] (0, 0) _ rfl (by refine fB (h := ?_); refine blk_put (cs := #[.int .i64 1, .int .i64 x113001_1]) ?_ 1 _ rfl; refine fB (h := ?_); refine blk_put (cs := #[.int .i64 x113000_1, .int .i64 x113001_1]) ?_ 0 _ rfl; refine fB (h := ?_); exact BK112.out) Tryd.underlying54 rfl (by kernel_rfl) .nil)))) rfl ?_
            exact ⟨oE, fW HB.out⟩
   ·rw [if_neg c4] at H
    have c4b0 := decide_eq_false c4
    clear c4
    simp only [Option.some.injEq, Prod.mk.injEq] at H
    obtain ⟨rfl, rfl, rfl, rfl⟩ := H
    have hcz31_0 : wr.cell? ⟨gb112, 0, none⟩ = some (.int .i64 x113000_1) := (blk_cell BK112.out 0).trans rfl
    have hcz31_1 : wr.cell? ⟨gb112, 1, none⟩ = some (.int .i64 x113001_1) := (blk_cell BK112.out 1).trans rfl
    have hfz31_0 := blk_frozen BK112.out 0
    have hfz31_1 := blk_frozen BK112.out 1
    go_wp2
    refine bodyPost_ret (results_list (rs := [.tmp 4, .tmp 5, .cell 6 54]) rfl (by simp) (.tmp (.tmp (.cell gb112 54 #[.int .i64 1, .int .i64 (l0.length : Int)] (0, 0) _ rfl (by refine fB (h := ?_); refine blk_put (cs := #[.int .i64 1, .int .i64 x113001_1]) ?_ 1 _ rfl; refine fB (h := ?_); refine blk_put (cs := #[.int .i64 x113000_1, .int .i64 x113001_1]) ?_ 0 _ rfl; refine fB (h := ?_); exact BK112.out) Tryd.underlying54 rfl (by kernel_rfl) .nil)))) rfl ?_
    exact ⟨oE, fW HB.out⟩

end Go.Proofs.YtcgchblljhbdaaaDoor.C
