-- Printed by this session's own program (wip/xprint) out of the translation. Lean checks it.
import Derived.Test.YtjieelpkdhfcgaaEx0
import Derived.Test.YtjieelpkdhfcgaaEx3
import Derived.Test.YtjieelpkdhfcgaaEx4
namespace Go.Proofs.Ytjieelpkdhfcgaa.E
open Go.Proofs.Ytjieelpkdhfcgaa
open Go.RowKit Go.Proofs.YtjieelpkdhfcgaaW.PrintWords Go.Proofs.YtjieelpkdhfcgaaW.PrintLast Go.Proofs.YtjieelpkdhfcgaaW.PrintMore
attribute [local go_sem] max2_int min2_int max_two min_two max_three min_three max_four min_four   -- for this text's walks alone
set_option linter.unusedVariables false
set_option linter.unusedSimpArgs false

/-! ### dnsl_Parse: function 4 -/
mutual
def dnsl_Parse.l0 : Nat → List (S34) → List (S36) → Int → Int → Option ((List (S34)) × Int × Int)
  | 0, _, _, _, _ => none
  | k + 1, x6, x19, x20, x21 => if x21 < x20 then (if 0 ≤ x21 then (if x21 < (x19.length : Int) then (if ((rd_T36 x19 x21).f1).toList = ([] : List UInt8) then (dnsl_Parse.j1 k x6 x19 x20 x21 true ((rd_T36 x19 x21).f0) ((rd_T36 x19 x21).f1) ((rd_T36 x19 x21).f2)) else (if 0 < (((rd_T36 x19 x21).f1).size : Int) then (dnsl_Parse.j1 k x6 x19 x20 x21 ((bt ((rd_T36 x19 x21).f1) 0) == 35) ((rd_T36 x19 x21).f0) ((rd_T36 x19 x21).f1) ((rd_T36 x19 x21).f2)) else (none))) else (none)) else (none)) else (some (x6, 0, 0))
def dnsl_Parse.j1 : Nat → List (S34) → List (S36) → Int → Int → Bool → Int → ByteArray → Int → Option ((List (S34)) × Int × Int)
  | 0, _, _, _, _, _, _, _, _ => none
  | k + 1, x6, x19, x20, x21, x33, x150000, x150001, x150002 => if x33 = true then (dnsl_Parse.l0 k x6 x19 x20 (wrap64 (x21 + 1))) else ((dnsl_row.f k x150000 x150001 x150002).bind fun bt150 => (if bt150.2.2.2.1 = 0 then (if x6.length < 2932031007402 then (dnsl_Parse.l0 k (x6 ++ [(⟨bt150.1, bt150.2.1, bt150.2.2.1⟩ : S34)]) x19 x20 (wrap64 (x21 + 1))) else (none)) else (some (([] : List (S34)), bt150.2.2.2.1, bt150.2.2.2.2))))
end
def dnsl_Parse.f (k : Nat) (l0 : List Int) : Option ((List (S34)) × Int × Int) := (scan_Long.f l0).bind fun bt141 => (if bt141.2.2 = true then (some (([] : List (S34)), bt141.1, bt141.2.1)) else ((scan_Lines.f k l0).bind fun t145 => (dnsl_Parse.l0 k ([] : List (S34)) t145 (t145.length : Int) 0)))
theorem dnsl_Parse.mono_l : ∀ k, (∀ y0 y1 y2 y3, LeO (dnsl_Parse.l0 k y0 y1 y2 y3) (dnsl_Parse.l0 (k + 1) y0 y1 y2 y3)) ∧ (∀ y0 y1 y2 y3 y4 y5 y6 y7, LeO (dnsl_Parse.j1 k y0 y1 y2 y3 y4 y5 y6 y7) (dnsl_Parse.j1 (k + 1) y0 y1 y2 y3 y4 y5 y6 y7))
  | 0 => ⟨fun _ _ _ _ r h => by simp [dnsl_Parse.l0] at h, fun _ _ _ _ _ _ _ _ r h => by simp [dnsl_Parse.j1] at h⟩
  | k + 1 => by
    obtain ⟨ih0, ih1⟩ := dnsl_Parse.mono_l k
    refine ⟨?_, ?_⟩
    · intro y0 y1 y2 y3
      unfold dnsl_Parse.l0
      repeat' first
      | (with_reducible exact ih0 _ _ _ _)
      | (with_reducible exact ih1 _ _ _ _ _ _ _ _)
      | (with_reducible exact dnsl_row.mono _ _ _ _)
      | (with_reducible exact scan_Lines.mono _ _)
      | (with_reducible exact LeO.refl _)
      | (with_reducible exact LeO.none _)
      | (with_reducible refine LeO.ite ?_ ?_)
      | (with_reducible refine LeO.bind ?_ (fun _ => ?_))
      | exact ih0 _ _ _ _
      | exact ih1 _ _ _ _ _ _ _ _
      | exact dnsl_row.mono _ _ _ _
      | exact scan_Lines.mono _ _
      | exact LeO.none _
      | refine LeO.ite ?_ ?_
      | refine LeO.bind ?_ (fun _ => ?_)
    · intro y0 y1 y2 y3 y4 y5 y6 y7
      unfold dnsl_Parse.j1
      repeat' first
      | (with_reducible exact ih0 _ _ _ _)
      | (with_reducible exact ih1 _ _ _ _ _ _ _ _)
      | (with_reducible exact dnsl_row.mono _ _ _ _)
      | (with_reducible exact scan_Lines.mono _ _)
      | (with_reducible exact LeO.refl _)
      | (with_reducible exact LeO.none _)
      | (with_reducible refine LeO.ite ?_ ?_)
      | (with_reducible refine LeO.bind ?_ (fun _ => ?_))
      | exact ih0 _ _ _ _
      | exact ih1 _ _ _ _ _ _ _ _
      | exact dnsl_row.mono _ _ _ _
      | exact scan_Lines.mono _ _
      | exact LeO.none _
      | refine LeO.ite ?_ ?_
      | refine LeO.bind ?_ (fun _ => ?_)
theorem dnsl_Parse.mono : ∀ a0 k, LeO (dnsl_Parse.f k a0) (dnsl_Parse.f (k + 1) a0) := by
  intro a0 k
  obtain ⟨ih0, ih1⟩ := dnsl_Parse.mono_l k
  unfold dnsl_Parse.f
  repeat' first
      | (with_reducible exact ih0 _ _ _ _)
      | (with_reducible exact ih1 _ _ _ _ _ _ _ _)
      | (with_reducible exact dnsl_row.mono _ _ _ _)
      | (with_reducible exact scan_Lines.mono _ _)
      | (with_reducible exact LeO.refl _)
      | (with_reducible exact LeO.none _)
      | (with_reducible refine LeO.ite ?_ ?_)
      | (with_reducible refine LeO.bind ?_ (fun _ => ?_))
      | exact ih0 _ _ _ _
      | exact ih1 _ _ _ _ _ _ _ _
      | exact dnsl_row.mono _ _ _ _
      | exact scan_Lines.mono _ _
      | exact LeO.none _
      | refine LeO.ite ?_ ?_
      | refine LeO.bind ?_ (fun _ => ?_)
set_option maxHeartbeats 8000000 in
set_option maxRecDepth 100000 in
theorem dnsl_Parse.calls (k : Nat) (A0 : Option Addr) (c0 : Nat) (l0 : List Int) (r1 : List (S34)) (r2 : Int) (r3 : Int) (w : World) (hr0 : Kd.C (Kd.int .u8) w A0 l0.length l0) (hc0 : l0.length ≤ c0) (h : dnsl_Parse.f k l0 = some (r1, r2, r3)) :
    Calls Try.prog 4 #[.slice A0 l0.length c0] w fun e w' => ∃ v0_ : Value, e = .returned (.tuple #[v0_, .agg #[.int .i64 r2, .int .i64 r3]]) ∧ Kd.S k34 34 w' w.heap.size (fun _ => True) v0_ r1 ∧ Below w.heap.size w w' := by
  have hu26 := Try.underlying26
  have hu36 := Try.underlying36
  have hu34 := Try.underlying34
  have HR0 := Aside0.mk hr0
  have HC0 := Aside0.mk hc0
  clear hr0 hc0
  have HB := Aside0.mk (Below.refl w.heap.size w)
  have H : ((scan_Long.f l0).bind fun bt141 => (if bt141.2.2 = true then (some (([] : List (S34)), bt141.1, bt141.2.1)) else ((scan_Lines.f k l0).bind fun t145 => (dnsl_Parse.l0 k ([] : List (S34)) t145 (t145.length : Int) 0)))) = some (r1, r2, r3) := h
  clear h
  replace H := Option.bind_eq_some_iff.mp H
  obtain ⟨⟨t141, t142, t143⟩, A20, H⟩ := H
  replace H : (if t143 = true then (some (([] : List (S34)), t141, t142)) else ((scan_Lines.f k l0).bind fun t145 => (dnsl_Parse.l0 k ([] : List (S34)) t145 (t145.length : Int) 0))) = some (r1, r2, r3) := H
  have A2 := Aside0.mk A20
  clear A20
  by_cases c3 : t143 = true
  · subst c3
    have H1 : (some (([] : List (S34)), t141, t142)) = some (r1, r2, r3) := by rw [if_pos rfl] at H; exact H
    clear H
    have H := H1
    clear H1
    simp only [Option.some.injEq, Prod.mk.injEq] at H
    obtain ⟨rfl, rfl, rfl⟩ := H
    go_enter Try.func4, Try.ntmps4
    try go_wp2_with (first | ((with_reducible refine gate_dst (N := 3) rfl ?_); refine box_event ?hg (N := 3) ?hd (cs := #[.int .i64 0, .int .i64 0]) (t := 26) ?hr ?_; (case hd => rfl); (case hg => rfl); (case hr => first | (go_simp; done) | (go_simp; rfl)); intro gb140 hg w4 hbox hb; have n0_ := Aside0.mk (below_step (by repeat (first | (with_reducible first | exact HB.out | apply below_alloc | apply pw_below_drewN | apply below_drew1) | exact HB.out)) hb); have n1_ := Aside0.mk (hbox); have n2_ := Aside0.mk ((by rw [hg]; exact (below_size (by repeat (first | (with_reducible first | exact HB.out | apply below_alloc | apply pw_below_drewN | apply below_drew1) | exact HB.out))) : w.heap.size ≤ gb140)); have n3_ := Aside0.mk ((by rw [hg]; exact (below_size (by repeat (first | (with_reducible first | exact HB.out | apply below_alloc | apply pw_below_drewN | apply below_drew1) | exact HB.out))) : w.heap.size ≤ gb140)); clear HB; have HB := n0_; have BK140 := n1_; have GW140 := n2_; have GE140 := n3_; clear n0_ n1_ n2_ n3_; clear hb hbox hg) | ((with_reducible refine gate_callee (f := 8) rfl ?_); refine goesL_ (some 13) rfl rfl Try.func8 (by kernel_rfl) rfl #[.slice A0 l0.length c0] rfl (by (try simp only [List.map_toArray, List.map_cons, List.map_nil]); first | done | rfl | (simp only [List.length_drop, List.length_take]; rfl)) ?_; (with_reducible refine (scan_Long.calls _ _ l0 t141 t142 true _ ?side1 ?side2 A2.out).mono ?_); (case side1 => repeat (first | exact (Kd.C_below HR0.out HB.out) | (with_reducible refine Kd.C_alloc ?_ _) | (with_reducible refine Kd.C_drewN ?_ _) | (with_reducible refine Kd.C_drew ?_))); (case side2 => exact HC0.out); rintro e w5 ⟨rfl, hb⟩; refine ⟨_, rfl, ?_⟩; have n0_ := Aside0.mk (blk_below (g := gb140) (o := .cells #[.int .i64 0, .int .i64 0] 26 (0, 0)) (by (with_reducible repeat (first | refine blk_drewN ?_ _ | refine blk_drew ?_ | refine blk_alloc ?_ _)); exact BK140.out) hb); have n1_ := Aside0.mk (below_step (by repeat (first | (with_reducible first | exact HB.out | apply below_alloc | apply pw_below_drewN | apply below_drew1 | refine below_set ?_ GE140.out) | exact HB.out)) hb); clear BK140; clear HB; have BK140 := n0_; have HB := n1_; clear n0_ n1_; (try clear hb); (try clear hb2); (try clear hk); (try clear hi)) | ((with_reducible refine gate_dst (N := 4) rfl ?_); refine box_event ?hg (N := 4) ?hd (cs := #[.int .i64 0, .int .i64 0]) (t := 26) ?hr ?_; (case hd => rfl); (case hg => rfl); (case hr => first | (go_simp; done) | (go_simp; rfl)); intro gb144 hg w6 hbox hb; have n0_ := Aside0.mk (blk_below (g := gb140) (o := .cells #[.int .i64 0, .int .i64 0] 26 (0, 0)) (by (with_reducible repeat (first | refine blk_drewN ?_ _ | refine blk_drew ?_ | refine blk_alloc ?_ _)); exact BK140.out) hb); have n1_ := Aside0.mk (below_step (by repeat (first | (with_reducible first | exact HB.out | apply below_alloc | apply pw_below_drewN | apply below_drew1 | refine below_set ?_ GE140.out) | exact HB.out)) hb); have n2_ := Aside0.mk (hbox); have n3_ := Aside0.mk ((by rw [hg]; exact (below_size (by repeat (first | (with_reducible first | exact HB.out | apply below_alloc | apply pw_below_drewN | apply below_drew1 | refine below_set ?_ GE140.out) | exact HB.out))) : w.heap.size ≤ gb144)); have n4_ := Aside0.mk ((by rw [hg]; exact (below_size (by repeat (first | (with_reducible first | exact HB.out | apply below_alloc | apply pw_below_drewN | apply below_drew1 | refine below_set ?_ GE140.out) | exact HB.out))) : w.heap.size ≤ gb144)); have n5_ := Aside0.mk ((by rw [hg]; exact Nat.ne_of_lt (blk_lt (g := gb140) (o := .cells #[.int .i64 0, .int .i64 0] 26 (0, 0)) (by (with_reducible repeat (first | refine blk_drewN ?_ _ | refine blk_drew ?_ | refine blk_alloc ?_ _)); exact BK140.out)) : gb140 ≠ gb144)); have n6_ := Aside0.mk ((by rw [hg]; exact Nat.ne_of_gt (blk_lt (g := gb140) (o := .cells #[.int .i64 0, .int .i64 0] 26 (0, 0)) (by (with_reducible repeat (first | refine blk_drewN ?_ _ | refine blk_drew ?_ | refine blk_alloc ?_ _)); exact BK140.out)) : gb144 ≠ gb140)); clear BK140; clear HB; have BK140 := n0_; have HB := n1_; have BK144 := n2_; have GW144 := n3_; have GE144 := n4_; have NB140_144 := n5_; have NB144_140 := n6_; clear n0_ n1_ n2_ n3_ n4_ n5_ n6_; clear hb hbox hg; have hnb7 := NB144_140.out; have hnc7 := NB140_144.out; have hcz8_0 : w6.cell? ⟨gb144, 0, none⟩ = some (.int .i64 0) := (blk_cell BK144.out 0).trans rfl; have hcz8_1 : w6.cell? ⟨gb144, 1, none⟩ = some (.int .i64 0) := (blk_cell BK144.out 1).trans rfl; have hfz8_0 := blk_frozen BK144.out 0; have hfz8_1 := blk_frozen BK144.out 1))
    have n0_ : Aside0 (((w6.setCell ⟨gb144, 0, none⟩ (.int .i64 t141)).setCell ⟨gb144, 1, none⟩ (.int .i64 t142)).heap[gb140]? = some (.cells #[.int .i64 0, .int .i64 0] 26 (0, 0))) := ⟨by (with_reducible repeat (first | refine blk_drewN ?_ _ | refine blk_drew ?_ | refine blk_alloc ?_ _)); refine blk_far ?_ NB140_144.out _; (with_reducible repeat (first | refine blk_drewN ?_ _ | refine blk_drew ?_ | refine blk_alloc ?_ _)); refine blk_far ?_ NB140_144.out _; (with_reducible repeat (first | refine blk_drewN ?_ _ | refine blk_drew ?_ | refine blk_alloc ?_ _)); exact BK140.out⟩
    have n1_ : Aside0 (((w6.setCell ⟨gb144, 0, none⟩ (.int .i64 t141)).setCell ⟨gb144, 1, none⟩ (.int .i64 t142)).heap[gb144]? = some (.cells #[.int .i64 t141, .int .i64 t142] 26 (0, 0))) := ⟨by (with_reducible repeat (first | refine blk_drewN ?_ _ | refine blk_drew ?_ | refine blk_alloc ?_ _)); refine blk_put (cs := #[.int .i64 t141, .int .i64 0]) ?_ 1 _ rfl; (with_reducible repeat (first | refine blk_drewN ?_ _ | refine blk_drew ?_ | refine blk_alloc ?_ _)); refine blk_put (cs := #[.int .i64 0, .int .i64 0]) ?_ 0 _ rfl; (with_reducible repeat (first | refine blk_drewN ?_ _ | refine blk_drew ?_ | refine blk_alloc ?_ _)); exact BK144.out⟩
    have n2_ : Aside0 (Below w.heap.size w ((w6.setCell ⟨gb144, 0, none⟩ (.int .i64 t141)).setCell ⟨gb144, 1, none⟩ (.int .i64 t142))) := ⟨by repeat (first | (with_reducible first | exact HB.out | apply below_alloc | apply pw_below_drewN | apply below_drew1 | refine below_set ?_ GE140.out | refine below_set ?_ GE144.out) | exact HB.out)⟩
    (try clear BK140)
    (try clear BK144)
    (try clear HB)
    generalize ((w6.setCell ⟨gb144, 0, none⟩ (.int .i64 t141)).setCell ⟨gb144, 1, none⟩ (.int .i64 t142)) = w9 at n0_ n1_ n2_ ⊢
    have BK140 := n0_
    have BK144 := n1_
    have HB := n2_
    clear n0_ n1_ n2_
    have n0_ := Aside0.mk (blk_drew BK140.out)
    have n1_ := Aside0.mk (blk_drew BK144.out)
    have n2_ := Aside0.mk (below_drew1 HB.out)
    clear BK140
    clear BK144
    clear HB
    have BK140 := n0_
    have BK144 := n1_
    have HB := n2_
    clear n0_ n1_ n2_
    refine start_ (n := 3) (S := fun w' => w'.cell? ⟨gb144, 0, none⟩ = some (.int .i64 t141) ∧ w'.cell? ⟨gb144, 1, none⟩ = some (.int .i64 t142)) (ds := []) #[false, false, false] (by kernel_rfl) rfl rfl ⟨(blk_cell BK144.out 0).trans rfl, (blk_cell BK144.out 1).trans rfl⟩ (fun hHeld => ?_)
    generalize w9.drew = w10 at BK140 BK144 HB hHeld ⊢
    refine pure_ (i := 1) (N := some 2) (v := ?_) (a' := ?_) #[false, true, false] rfl rfl (by kernel_rfl) (fun _ _ _ h => h) (Or.inl ⟨by rfl, ?_⟩) ?_ ?_
    rotate_left
    · intro w'
      go_simp
      with_reducible rfl
    rotate_left
    · simp only [Act.put, List.setIfInBounds_toArray, List.set_cons_zero, List.set_cons_succ, i64_w, i32_w]
      rfl
    refine take_ (i := 0) (N := some 17) (v := ?_) (a' := ?_) #[true, true, false] rfl rfl (by kernel_rfl) (fun _ _ _ h => h) (Or.inl ⟨by rfl, ?_⟩) hHeld ?_ ?_
    rotate_left
    · rintro w' ⟨s0, s1⟩
      go_simp
      with_reducible rfl
    rotate_left
    · simp only [Act.put, List.setIfInBounds_toArray, List.set_cons_zero, List.set_cons_succ, i64_w, i32_w]
      rfl
    refine one_ (i := 2) (N := none) #[true, true, true] rfl rfl (by kernel_rfl) (by decide) (fun K hK => ?_)
    have hs11 : w10.cell? ⟨gb140, 0, none⟩ = some (.int .i64 0) := (blk_cell BK140.out 0).trans rfl
    have hfs11 := blk_frozen BK140.out 0
    have hns11_1 := NB144_140.out
    have hms11_1 := NB140_144.out
    have hs12 : w10.cell? ⟨gb140, 1, none⟩ = some (.int .i64 0) := (blk_cell BK140.out 1).trans rfl
    have hfs12 := blk_frozen BK140.out 1
    have hns12_1 := NB144_140.out
    have hms12_1 := NB140_144.out
    refine skip_ (w1 := ?_) (by rfl) rfl ?_ ?_
    rotate_left
    · go_simp
      rfl
    refine hK.out _ _ ⟨((cell_far (p := ⟨gb140, _, none⟩) NB144_140.out _).trans (((cell_far (p := ⟨gb140, _, none⟩) NB144_140.out _).trans (hHeld.1)))), ((cell_far (p := ⟨gb140, _, none⟩) NB144_140.out _).trans (((cell_far (p := ⟨gb140, _, none⟩) NB144_140.out _).trans (hHeld.2))))⟩ (fun hHeld => ?_)
    clear hK K
    refine done_ (by kernel_rfl) ?_
    try go_wp2
    refine bodyPost_ret (results_tc rfl _ _ gb140 26 #[.int .i64 t141, .int .i64 t142] (0, 0) _ rfl (by (with_reducible repeat (first | refine blk_drewN ?_ _ | refine blk_drew ?_ | refine blk_alloc ?_ _)); refine blk_put (cs := #[.int .i64 t141, .int .i64 0]) ?_ 1 _ rfl; (with_reducible repeat (first | refine blk_drewN ?_ _ | refine blk_drew ?_ | refine blk_alloc ?_ _)); refine blk_put (cs := #[.int .i64 0, .int .i64 0]) ?_ 0 _ rfl; (with_reducible repeat (first | refine blk_drewN ?_ _ | refine blk_drew ?_ | refine blk_alloc ?_ _)); exact BK140.out) Try.underlying26 rfl (by kernel_rfl)) rfl ?_
    exact ⟨_, by first | rfl | (simp [errW_none, errW_some] <;> rfl) | (simp [*, errW_none, errW_some] <;> rfl), by first | exact Kd.S_nil _ _ _ _ _ | exact Kd.N_nil _ _ _ _ _ | exact Kd.V_nil _ _ _ _ _ | exact Kd.Q_nil _ _ _ _ _ | exact Kd.R_nil _ _ _ _ _, by repeat (first | (with_reducible first | exact HB.out | apply below_alloc | apply pw_below_drewN | apply below_drew1 | refine below_set ?_ GE140.out | refine below_set ?_ GE144.out) | exact HB.out)⟩
  · replace c3 := Bool.eq_false_iff.mpr c3
    subst c3
    have H1 : ((scan_Lines.f k l0).bind fun t145 => (dnsl_Parse.l0 k ([] : List (S34)) t145 (t145.length : Int) 0)) = some (r1, r2, r3) := by rw [if_neg (show ¬ (false = true) by decide)] at H; exact H
    clear H
    have H := H1
    clear H1
    replace H := Option.bind_eq_some_iff.mp H
    obtain ⟨t145, A130, H⟩ := H
    replace H : (dnsl_Parse.l0 k ([] : List (S34)) t145 (t145.length : Int) 0) = some (r1, r2, r3) := H
    have A13 := Aside0.mk A130
    clear A130
    have H' := Aside0.mk H
    clear H
    go_enter Try.func4, Try.ntmps4
    go_wp2_with (first | ((with_reducible refine gate_dst (N := 3) rfl ?_); refine box_event ?hg (N := 3) ?hd (cs := #[.int .i64 0, .int .i64 0]) (t := 26) ?hr ?_; (case hd => rfl); (case hg => rfl); (case hr => first | (go_simp; done) | (go_simp; rfl)); intro gb140 hg w14 hbox hb; have n0_ := Aside0.mk (below_step (by repeat (first | (with_reducible first | exact HB.out | apply below_alloc | apply pw_below_drewN | apply below_drew1) | exact HB.out)) hb); have n1_ := Aside0.mk (hbox); have n2_ := Aside0.mk ((by rw [hg]; exact (below_size (by repeat (first | (with_reducible first | exact HB.out | apply below_alloc | apply pw_below_drewN | apply below_drew1) | exact HB.out))) : w.heap.size ≤ gb140)); have n3_ := Aside0.mk ((by rw [hg]; exact (below_size (by repeat (first | (with_reducible first | exact HB.out | apply below_alloc | apply pw_below_drewN | apply below_drew1) | exact HB.out))) : w.heap.size ≤ gb140)); clear HB; have HB := n0_; have BK140 := n1_; have GW140 := n2_; have GE140 := n3_; clear n0_ n1_ n2_ n3_; clear hb hbox hg) | ((with_reducible refine gate_callee (f := 8) rfl ?_); refine goesL_ (some 13) rfl rfl Try.func8 (by kernel_rfl) rfl #[.slice A0 l0.length c0] rfl (by (try simp only [List.map_toArray, List.map_cons, List.map_nil]); first | done | rfl | (simp only [List.length_drop, List.length_take]; rfl)) ?_; (with_reducible refine (scan_Long.calls _ _ l0 t141 t142 false _ ?side1 ?side2 A2.out).mono ?_); (case side1 => repeat (first | exact (Kd.C_below HR0.out HB.out) | (with_reducible refine Kd.C_alloc ?_ _) | (with_reducible refine Kd.C_drewN ?_ _) | (with_reducible refine Kd.C_drew ?_))); (case side2 => exact HC0.out); rintro e w15 ⟨rfl, hb⟩; refine ⟨_, rfl, ?_⟩; have n0_ := Aside0.mk (blk_below (g := gb140) (o := .cells #[.int .i64 0, .int .i64 0] 26 (0, 0)) (by (with_reducible repeat (first | refine blk_drewN ?_ _ | refine blk_drew ?_ | refine blk_alloc ?_ _)); exact BK140.out) hb); have n1_ := Aside0.mk (below_step (by repeat (first | (with_reducible first | exact HB.out | apply below_alloc | apply pw_below_drewN | apply below_drew1 | refine below_set ?_ GE140.out) | exact HB.out)) hb); clear BK140; clear HB; have BK140 := n0_; have HB := n1_; clear n0_ n1_; (try clear hb); (try clear hb2); (try clear hk); (try clear hi)) | ((with_reducible refine gate_dst (N := 4) rfl ?_); refine box_event ?hg (N := 4) ?hd (cs := #[.int .i64 0, .int .i64 0]) (t := 26) ?hr ?_; (case hd => rfl); (case hg => rfl); (case hr => first | (go_simp; done) | (go_simp; rfl)); intro gb144 hg w16 hbox hb; have n0_ := Aside0.mk (blk_below (g := gb140) (o := .cells #[.int .i64 0, .int .i64 0] 26 (0, 0)) (by (with_reducible repeat (first | refine blk_drewN ?_ _ | refine blk_drew ?_ | refine blk_alloc ?_ _)); exact BK140.out) hb); have n1_ := Aside0.mk (below_step (by repeat (first | (with_reducible first | exact HB.out | apply below_alloc | apply pw_below_drewN | apply below_drew1 | refine below_set ?_ GE140.out) | exact HB.out)) hb); have n2_ := Aside0.mk (hbox); have n3_ := Aside0.mk ((by rw [hg]; exact (below_size (by repeat (first | (with_reducible first | exact HB.out | apply below_alloc | apply pw_below_drewN | apply below_drew1 | refine below_set ?_ GE140.out) | exact HB.out))) : w.heap.size ≤ gb144)); have n4_ := Aside0.mk ((by rw [hg]; exact (below_size (by repeat (first | (with_reducible first | exact HB.out | apply below_alloc | apply pw_below_drewN | apply below_drew1 | refine below_set ?_ GE140.out) | exact HB.out))) : w.heap.size ≤ gb144)); have n5_ := Aside0.mk ((by rw [hg]; exact Nat.ne_of_lt (blk_lt (g := gb140) (o := .cells #[.int .i64 0, .int .i64 0] 26 (0, 0)) (by (with_reducible repeat (first | refine blk_drewN ?_ _ | refine blk_drew ?_ | refine blk_alloc ?_ _)); exact BK140.out)) : gb140 ≠ gb144)); have n6_ := Aside0.mk ((by rw [hg]; exact Nat.ne_of_gt (blk_lt (g := gb140) (o := .cells #[.int .i64 0, .int .i64 0] 26 (0, 0)) (by (with_reducible repeat (first | refine blk_drewN ?_ _ | refine blk_drew ?_ | refine blk_alloc ?_ _)); exact BK140.out)) : gb144 ≠ gb140)); clear BK140; clear HB; have BK140 := n0_; have HB := n1_; have BK144 := n2_; have GW144 := n3_; have GE144 := n4_; have NB140_144 := n5_; have NB144_140 := n6_; clear n0_ n1_ n2_ n3_ n4_ n5_ n6_; clear hb hbox hg; have hnb17 := NB144_140.out; have hnc17 := NB140_144.out; have hcz18_0 : w16.cell? ⟨gb144, 0, none⟩ = some (.int .i64 0) := (blk_cell BK144.out 0).trans rfl; have hcz18_1 : w16.cell? ⟨gb144, 1, none⟩ = some (.int .i64 0) := (blk_cell BK144.out 1).trans rfl; have hfz18_0 := blk_frozen BK144.out 0; have hfz18_1 := blk_frozen BK144.out 1) | ((with_reducible refine gate_callee (f := 9) rfl ?_); refine goesL_ (some 19) rfl rfl Try.func9 (by kernel_rfl) rfl #[.slice A0 l0.length c0] rfl (by (try simp only [List.map_toArray, List.map_cons, List.map_nil]); first | done | rfl | (simp only [List.length_drop, List.length_take]; rfl)) ?_; (with_reducible refine (scan_Lines.calls k _ _ l0 t145 _ ?side1 ?side2 A13.out).mono ?_); (case side1 => exact Kd.C_below HR0.out (by repeat (first | (with_reducible first | exact HB.out | apply below_alloc | apply pw_below_drewN | apply below_drew1 | refine below_set ?_ GE140.out | refine below_set ?_ GE144.out) | exact HB.out))); (case side2 => exact HC0.out); rintro e w19 ⟨v146, rfl, ho0, hb⟩; refine ⟨_, rfl, ?_⟩; have n0_ := Aside0.mk (Kd.R_lower ho0 (below_size (by repeat (first | (with_reducible first | exact HB.out | apply below_alloc | apply pw_below_drewN | apply below_drew1 | refine below_set ?_ GE140.out | refine below_set ?_ GE144.out) | exact HB.out)))); have n1_ := Aside0.mk (blk_below (g := gb140) (o := .cells #[.int .i64 0, .int .i64 0] 26 (0, 0)) (by (with_reducible repeat (first | refine blk_drewN ?_ _ | refine blk_drew ?_ | refine blk_alloc ?_ _)); refine blk_far ?_ NB140_144.out _; (with_reducible repeat (first | refine blk_drewN ?_ _ | refine blk_drew ?_ | refine blk_alloc ?_ _)); refine blk_far ?_ NB140_144.out _; (with_reducible repeat (first | refine blk_drewN ?_ _ | refine blk_drew ?_ | refine blk_alloc ?_ _)); exact BK140.out) hb); have n2_ := Aside0.mk (blk_below (g := gb144) (o := .cells #[.int .i64 t141, .int .i64 t142] 26 (0, 0)) (by (with_reducible repeat (first | refine blk_drewN ?_ _ | refine blk_drew ?_ | refine blk_alloc ?_ _)); refine blk_put (cs := #[.int .i64 t141, .int .i64 0]) ?_ 1 _ rfl; (with_reducible repeat (first | refine blk_drewN ?_ _ | refine blk_drew ?_ | refine blk_alloc ?_ _)); refine blk_put (cs := #[.int .i64 0, .int .i64 0]) ?_ 0 _ rfl; (with_reducible repeat (first | refine blk_drewN ?_ _ | refine blk_drew ?_ | refine blk_alloc ?_ _)); exact BK144.out) hb); have n3_ := Aside0.mk (below_step (by repeat (first | (with_reducible first | exact HB.out | apply below_alloc | apply pw_below_drewN | apply below_drew1 | refine below_set ?_ GE140.out | refine below_set ?_ GE144.out) | exact HB.out)) hb); clear BK140; clear BK144; clear HB; have HO147 := n0_; have BK140 := n1_; have BK144 := n2_; have HB := n3_; clear n0_ n1_ n2_ n3_; (try clear hb); (try clear hb2); (try clear hk); (try clear hi); (try clear ho0); obtain ⟨Ao20, co20, eo20⟩ := Kd.R_slice HO147.out; subst eo20))
    go_loopg [6, 21] k (fun kq v6 v21 w' => ∃ (x6_1 : List (S34)) (x21_1 : Int) (x141000_1 : Int) (x141001_1 : Int), v21 = .int .i64 x21_1 ∧ Aside0 (dnsl_Parse.l0 kq x6_1 t145 (t145.length : Int) x21_1 = some (r1, r2, r3)) ∧ Aside0 (kq ≤ k) ∧ Aside0 (Kd.S k34 34 w' w.heap.size (fun k_ => some k_ ≠ ((.slice Ao20 t145.length co20) : Value).ownBlock) v6 x6_1) ∧ Aside0 (Kd.R k36 36 w' w.heap.size (fun _ => True) (.slice Ao20 t145.length co20) t145) ∧ Aside0 (w'.heap[gb140]? = some (.cells #[.int .i64 x141000_1, .int .i64 x141001_1] 26 (0, 0))) ∧ Aside0 (w'.heap[gb144]? = some (.cells #[.int .i64 t141, .int .i64 t142] 26 (0, 0))) ∧ Aside0 (Below w.heap.size w w'))
    case atStart => exact ⟨(([] : List (S34))), (0), (0), (0), (by first | rfl | (simp only [i64_w]; done) | (simp; done) | (simp [*]; done)), H', ⟨Nat.le_refl _⟩, ⟨by first | exact Kd.S_nil _ _ _ _ _ | exact Kd.N_nil _ _ _ _ _ | exact Kd.V_nil _ _ _ _ _ | exact Kd.Q_nil _ _ _ _ _ | exact Kd.R_nil _ _ _ _ _⟩, ⟨by (with_reducible repeat (first | apply Kd.R_alloc | apply Kd.R_drewN | apply Kd.R_drew)); exact HO147.out⟩, ⟨by (with_reducible repeat (first | refine blk_drewN ?_ _ | refine blk_drew ?_ | refine blk_alloc ?_ _)); exact BK140.out⟩, ⟨by (with_reducible repeat (first | refine blk_drewN ?_ _ | refine blk_drew ?_ | refine blk_alloc ?_ _)); exact BK144.out⟩, ⟨by repeat (first | (with_reducible first | exact HB.out | apply below_alloc | apply pw_below_drewN | apply below_drew1 | refine below_set ?_ GE140.out | refine below_set ?_ GE144.out) | exact HB.out)⟩⟩
    case round =>
      clear H'
      try clear c1
      try clear p2
      try clear c3
      try clear c4
      try clear c7
      try clear c8
      try clear c9
      try clear c17
      try clear hcz18_0
      try clear hcz18_1
      try clear hcz8_0
      try clear hcz8_1
      try clear hfz18_0
      try clear hfz18_1
      try clear hfz8_0
      try clear hfz8_1
      obtain ⟨x6_1, x21_1, x141000_1, x141001_1, rfl, HA, HK1, HO_6, HO_19, BK140, BK144, HB⟩ := hrel
      cases gk with
      | zero => exact absurd HA.out (by simp [dnsl_Parse.l0])
      | succ k1 =>
        have H := HA.out
        clear HA
        simp only [dnsl_Parse.l0] at H
        by_cases c21 : x21_1 < (t145.length : Int)
        · rw [if_pos c21] at H
          have c21b0 : decide (x21_1 < (t145.length : Int)) = true := decide_eq_true c21
          clear c21
          by_cases c22 : 0 ≤ x21_1
          · rw [if_pos c22] at H
            have c22b0 : decide (0 ≤ x21_1) = true := decide_eq_true c22
            clear c22
            by_cases c23 : x21_1 < (t145.length : Int)
            · rw [if_pos c23] at H
              have c23b0 : decide (x21_1 < (t145.length : Int)) = true := decide_eq_true c23
              clear c23
              have HC24 := Aside0.mk H
              clear H
              have p148 : 0 ≤ (x21_1 : Int) := of_decide_eq_true (by first | (with_reducible assumption) | assumption)
              have q148 : x21_1 < (t145.length : Int) := of_decide_eq_true (by first | (with_reducible assumption) | assumption)
              obtain ⟨ad148, e148, hx148_0, hx148_1, hx148_2⟩ := at_T36 (Kd.R_reads' HO_19.out).2.2 x21_1 p148 q148
              cases e148
              replace p148 := eq_true p148
              replace q148 := eq_true q148
              go_upto_region 8 with (first | ((with_reducible refine gate_dst (N := 8) rfl ?_); refine box_event ?hg (N := 8) ?hd (cs := #[.int .i64 0, .string (⟨#[]⟩ : ByteArray), .int .i64 0]) (t := 36) ?hr ?_; (case hd => rfl); (case hg => rfl); (case hr => first | (go_simp; done) | (go_simp; rfl)); intro gb149 hg w25 hbox hb; have n0_ := Aside0.mk (Kd.S_below (Kd.S_elderB (by (with_reducible repeat (first | apply Kd.S_alloc | apply Kd.S_drewN | apply Kd.S_drew)); exact HO_6.out) gb149 (Nat.le_of_eq hg.symm)) hb); have n1_ := Aside0.mk (Kd.R_below (Kd.R_elderB (by (with_reducible repeat (first | apply Kd.R_alloc | apply Kd.R_drewN | apply Kd.R_drew)); exact HO_19.out) gb149 (Nat.le_of_eq hg.symm)) hb); have n2_ := Aside0.mk (blk_below (g := gb140) (o := .cells #[.int .i64 x141000_1, .int .i64 x141001_1] 26 (0, 0)) (by (with_reducible repeat (first | refine blk_drewN ?_ _ | refine blk_drew ?_ | refine blk_alloc ?_ _)); exact BK140.out) hb); have n3_ := Aside0.mk (blk_below (g := gb144) (o := .cells #[.int .i64 t141, .int .i64 t142] 26 (0, 0)) (by (with_reducible repeat (first | refine blk_drewN ?_ _ | refine blk_drew ?_ | refine blk_alloc ?_ _)); exact BK144.out) hb); have n4_ := Aside0.mk (below_step (by repeat (first | (with_reducible first | exact HB.out | apply below_alloc | apply pw_below_drewN | apply below_drew1 | refine below_set ?_ GE140.out | refine below_set ?_ GE144.out) | exact HB.out)) hb); have n5_ := Aside0.mk (hbox); have n6_ := Aside0.mk ((by rw [hg]; exact (below_size (by repeat (first | (with_reducible first | exact HB.out | apply below_alloc | apply pw_below_drewN | apply below_drew1 | refine below_set ?_ GE140.out | refine below_set ?_ GE144.out) | exact HB.out))) : w.heap.size ≤ gb149)); have n7_ := Aside0.mk ((by rw [hg]; exact (below_size (by repeat (first | (with_reducible first | exact HB.out | apply below_alloc | apply pw_below_drewN | apply below_drew1 | refine below_set ?_ GE140.out | refine below_set ?_ GE144.out) | exact HB.out))) : w.heap.size ≤ gb149)); have n8_ := Aside0.mk ((by rw [hg]; exact Nat.ne_of_lt (blk_lt (g := gb140) (o := .cells #[.int .i64 x141000_1, .int .i64 x141001_1] 26 (0, 0)) (by (with_reducible repeat (first | refine blk_drewN ?_ _ | refine blk_drew ?_ | refine blk_alloc ?_ _)); exact BK140.out)) : gb140 ≠ gb149)); have n9_ := Aside0.mk ((by rw [hg]; exact Nat.ne_of_gt (blk_lt (g := gb140) (o := .cells #[.int .i64 x141000_1, .int .i64 x141001_1] 26 (0, 0)) (by (with_reducible repeat (first | refine blk_drewN ?_ _ | refine blk_drew ?_ | refine blk_alloc ?_ _)); exact BK140.out)) : gb149 ≠ gb140)); have n10_ := Aside0.mk ((by rw [hg]; exact Nat.ne_of_lt (blk_lt (g := gb144) (o := .cells #[.int .i64 t141, .int .i64 t142] 26 (0, 0)) (by (with_reducible repeat (first | refine blk_drewN ?_ _ | refine blk_drew ?_ | refine blk_alloc ?_ _)); exact BK144.out)) : gb144 ≠ gb149)); have n11_ := Aside0.mk ((by rw [hg]; exact Nat.ne_of_gt (blk_lt (g := gb144) (o := .cells #[.int .i64 t141, .int .i64 t142] 26 (0, 0)) (by (with_reducible repeat (first | refine blk_drewN ?_ _ | refine blk_drew ?_ | refine blk_alloc ?_ _)); exact BK144.out)) : gb149 ≠ gb144)); clear HO_6; clear HO_19; clear BK140; clear BK144; clear HB; have HO_6 := n0_; have HO_19 := n1_; have BK140 := n2_; have BK144 := n3_; have HB := n4_; have BK149 := n5_; have GW149 := n6_; have GE149 := n7_; have NB140_149 := n8_; have NB149_140 := n9_; have NB144_149 := n10_; have NB149_144 := n11_; clear n0_ n1_ n2_ n3_ n4_ n5_ n6_ n7_ n8_ n9_ n10_ n11_; clear hb hbox hg; have hnb26 := NB149_140.out; have hnc26 := NB140_149.out; have hnb27 := NB149_144.out; have hnc27 := NB144_149.out; have hcz28_0 : w25.cell? ⟨gb149, 0, none⟩ = some (.int .i64 0) := (blk_cell BK149.out 0).trans rfl; have hcz28_1 : w25.cell? ⟨gb149, 1, none⟩ = some (.string (⟨#[]⟩ : ByteArray)) := (blk_cell BK149.out 1).trans rfl; have hcz28_2 : w25.cell? ⟨gb149, 2, none⟩ = some (.int .i64 0) := (blk_cell BK149.out 2).trans rfl; have hfz28_0 := blk_frozen BK149.out 0; have hfz28_1 := blk_frozen BK149.out 1; have hfz28_2 := blk_frozen BK149.out 2))
              (try simp only [Act.put, List.setIfInBounds_toArray, List.set_cons_zero, List.set_cons_succ])
              go_cut [33] (fun v33 wc => ∃ (kq : Nat) (x33_23 : Bool), v33 = .bool x33_23 ∧ Aside0 (dnsl_Parse.j1 kq x6_1 t145 (t145.length : Int) x21_1 x33_23 ((rd_T36 t145 x21_1).f0) ((rd_T36 t145 x21_1).f1) ((rd_T36 t145 x21_1).f2) = some (r1, r2, r3)) ∧ Aside0 (kq ≤ k1) ∧ Aside0 (Kd.S k34 34 wc w.heap.size (fun k_ => some k_ ≠ ((.slice (some ad148) t145.length co20) : Value).ownBlock ∧ k_ ≠ gb149) u6 x6_1) ∧ Aside0 (Kd.R k36 36 wc w.heap.size (fun k_ => k_ ≠ gb149) (.slice (some ad148) t145.length co20) t145) ∧ Aside0 (wc.heap[gb140]? = some (.cells #[.int .i64 x141000_1, .int .i64 x141001_1] 26 (0, 0))) ∧ Aside0 (wc.heap[gb144]? = some (.cells #[.int .i64 t141, .int .i64 t142] 26 (0, 0))) ∧ Aside0 (wc.heap[gb149]? = some (.cells #[.int .i64 ((rd_T36 t145 x21_1).f0), .string ((rd_T36 t145 x21_1).f1), .int .i64 ((rd_T36 t145 x21_1).f2)] 36 (0, 0))) ∧ Aside0 (Below w.heap.size w wc))
              case first =>
                have H := HC24.out
                clear HC24
                by_cases c29 : ((rd_T36 t145 x21_1).f1).toList = ([] : List UInt8)
                · rw [if_pos c29] at H
                  have c29b0 : (((rd_T36 t145 x21_1).f1).toList == ([] : List UInt8)) = true := beq_iff_eq.mpr c29
                  have c29b1 : (((rd_T36 t145 x21_1).f1).toList != ([] : List UInt8)) = false := bne_eq_false_iff_eq.mpr c29
                  clear c29
                  (first | rw [c29b0] | (simp only [i64_w, i32_w]; rw [c29b0]) | skip)
                  have H' := Aside0.mk H
                  clear H
                  have hnb30 := NB149_140.out
                  have hnc30 := NB140_149.out
                  have hnb31 := NB149_144.out
                  have hnc31 := NB144_149.out
                  have hcz32_0 : w25.cell? ⟨gb149, 0, none⟩ = some (.int .i64 0) := (blk_cell BK149.out 0).trans rfl
                  have hcz32_1 : w25.cell? ⟨gb149, 1, none⟩ = some (.string (⟨#[]⟩ : ByteArray)) := (blk_cell BK149.out 1).trans rfl
                  have hcz32_2 : w25.cell? ⟨gb149, 2, none⟩ = some (.int .i64 0) := (blk_cell BK149.out 2).trans rfl
                  have hfz32_0 := blk_frozen BK149.out 0
                  have hfz32_1 := blk_frozen BK149.out 1
                  have hfz32_2 := blk_frozen BK149.out 2
                  go_wp2
                  go_meet
                  case rel => exact ⟨_, (true), (by first | rfl | (simp only [i64_w]; done) | (simp; done) | (simp [*]; done)), H', ⟨by have := HK1.out; first | omega | exact Nat.le_refl _⟩, ⟨by (with_reducible repeat (first | apply Kd.S_alloc | apply Kd.S_drewN | apply Kd.S_drew)); exact Kd.S_mono (Kd.S_far (p := ⟨gb149, 2, none⟩) (Kd.S_far (p := ⟨gb149, 1, none⟩) (Kd.S_far (p := ⟨gb149, 0, none⟩) (Kd.S_mono HO_6.out (fun k_ hk => (⟨hk, hk.2⟩ : _ ∧ k_ ≠ gb149))) (fun _ hk => hk.2) (.int .i64 ((rd_T36 t145 x21_1).f0))) (fun _ hk => hk.2) (.string ((rd_T36 t145 x21_1).f1))) (fun _ hk => hk.2) (.int .i64 ((rd_T36 t145 x21_1).f2))) (fun _ hk => ⟨hk.1.1, hk.1.2⟩)⟩, ⟨by (with_reducible repeat (first | apply Kd.R_alloc | apply Kd.R_drewN | apply Kd.R_drew)); exact Kd.R_mono (Kd.R_far (p := ⟨gb149, 2, none⟩) (Kd.R_far (p := ⟨gb149, 1, none⟩) (Kd.R_far (p := ⟨gb149, 0, none⟩) (Kd.R_mono HO_19.out (fun k_ hk => (⟨hk, hk.2⟩ : _ ∧ k_ ≠ gb149))) (fun _ hk => hk.2) (.int .i64 ((rd_T36 t145 x21_1).f0))) (fun _ hk => hk.2) (.string ((rd_T36 t145 x21_1).f1))) (fun _ hk => hk.2) (.int .i64 ((rd_T36 t145 x21_1).f2))) (fun _ hk => hk.1.2)⟩, ⟨by (with_reducible repeat (first | refine blk_drewN ?_ _ | refine blk_drew ?_ | refine blk_alloc ?_ _)); refine blk_far ?_ NB140_149.out _; (with_reducible repeat (first | refine blk_drewN ?_ _ | refine blk_drew ?_ | refine blk_alloc ?_ _)); refine blk_far ?_ NB140_149.out _; (with_reducible repeat (first | refine blk_drewN ?_ _ | refine blk_drew ?_ | refine blk_alloc ?_ _)); refine blk_far ?_ NB140_149.out _; (with_reducible repeat (first | refine blk_drewN ?_ _ | refine blk_drew ?_ | refine blk_alloc ?_ _)); exact BK140.out⟩, ⟨by (with_reducible repeat (first | refine blk_drewN ?_ _ | refine blk_drew ?_ | refine blk_alloc ?_ _)); refine blk_far ?_ NB144_149.out _; (with_reducible repeat (first | refine blk_drewN ?_ _ | refine blk_drew ?_ | refine blk_alloc ?_ _)); refine blk_far ?_ NB144_149.out _; (with_reducible repeat (first | refine blk_drewN ?_ _ | refine blk_drew ?_ | refine blk_alloc ?_ _)); refine blk_far ?_ NB144_149.out _; (with_reducible repeat (first | refine blk_drewN ?_ _ | refine blk_drew ?_ | refine blk_alloc ?_ _)); exact BK144.out⟩, ⟨by (with_reducible repeat (first | refine blk_drewN ?_ _ | refine blk_drew ?_ | refine blk_alloc ?_ _)); refine blk_put (cs := #[.int .i64 ((rd_T36 t145 x21_1).f0), .string ((rd_T36 t145 x21_1).f1), .int .i64 0]) ?_ 2 _ rfl; (with_reducible repeat (first | refine blk_drewN ?_ _ | refine blk_drew ?_ | refine blk_alloc ?_ _)); refine blk_put (cs := #[.int .i64 ((rd_T36 t145 x21_1).f0), .string (⟨#[]⟩ : ByteArray), .int .i64 0]) ?_ 1 _ rfl; (with_reducible repeat (first | refine blk_drewN ?_ _ | refine blk_drew ?_ | refine blk_alloc ?_ _)); refine blk_put (cs := #[.int .i64 0, .string (⟨#[]⟩ : ByteArray), .int .i64 0]) ?_ 0 _ rfl; (with_reducible repeat (first | refine blk_drewN ?_ _ | refine blk_drew ?_ | refine blk_alloc ?_ _)); exact BK149.out⟩, ⟨by repeat (first | (with_reducible first | exact HB.out | apply below_alloc | apply pw_below_drewN | apply below_drew1 | refine below_set ?_ GE140.out | refine below_set ?_ GE144.out | refine below_set ?_ GE149.out) | exact HB.out)⟩⟩
                · rw [if_neg c29] at H
                  have c29b0 : (((rd_T36 t145 x21_1).f1).toList == ([] : List UInt8)) = false := beq_eq_false_iff_ne.mpr c29
                  have c29b1 : (((rd_T36 t145 x21_1).f1).toList != ([] : List UInt8)) = true := bne_iff_ne.mpr c29
                  (first | rw [c29b0] | (simp only [i64_w, i32_w]; rw [c29b0]) | skip)
                  by_cases c33 : 0 < (((rd_T36 t145 x21_1).f1).size : Int)
                  · rw [if_pos c33] at H
                    have c33b0 : decide (0 < (((rd_T36 t145 x21_1).f1).size : Int)) = true := decide_eq_true c33
                    have c33b1 : decide (0 < ((rd_T36 t145 x21_1).f1).size) = true := decide_eq_true (by omega)
                    clear c33
                    have H' := Aside0.mk H
                    clear H
                    have hnb35 := NB149_140.out
                    have hnc35 := NB140_149.out
                    have hnb36 := NB149_144.out
                    have hnc36 := NB144_149.out
                    have hcz37_0 : w25.cell? ⟨gb149, 0, none⟩ = some (.int .i64 0) := (blk_cell BK149.out 0).trans rfl
                    have hcz37_1 : w25.cell? ⟨gb149, 1, none⟩ = some (.string (⟨#[]⟩ : ByteArray)) := (blk_cell BK149.out 1).trans rfl
                    have hcz37_2 : w25.cell? ⟨gb149, 2, none⟩ = some (.int .i64 0) := (blk_cell BK149.out 2).trans rfl
                    have hfz37_0 := blk_frozen BK149.out 0
                    have hfz37_1 := blk_frozen BK149.out 1
                    have hfz37_2 := blk_frozen BK149.out 2
                    have p34 : 0 ≤ (0 : Int) := (by omega)
                    have q34 : 0 < ((rd_T36 t145 x21_1).f1).size := (by have : (0 : Int) < (((rd_T36 t145 x21_1).f1).size : Int) := of_decide_eq_true (by first | (with_reducible assumption) | assumption); omega)
                    have hx34 : ∀ h : 0 < ((rd_T36 t145 x21_1).f1).size, ((((rd_T36 t145 x21_1).f1)[0]'h).toNat : Int) = bt ((rd_T36 t145 x21_1).f1) 0 := bt_at ((rd_T36 t145 x21_1).f1) 0
                    clear p34
                    have qi34 : (0 < (((rd_T36 t145 x21_1).f1).size : Int)) = True := eq_true (of_decide_eq_true (by first | (with_reducible assumption) | assumption))
                    replace q34 := eq_true q34
                    go_wp2
                    go_meet
                    case rel => exact ⟨_, (((bt ((rd_T36 t145 x21_1).f1) 0) == 35)), (by first | rfl | (simp only [i64_w]; done) | (simp; done) | (simp [*]; done)), H', ⟨by have := HK1.out; first | omega | exact Nat.le_refl _⟩, ⟨by (with_reducible repeat (first | apply Kd.S_alloc | apply Kd.S_drewN | apply Kd.S_drew)); exact Kd.S_mono (Kd.S_far (p := ⟨gb149, 2, none⟩) (Kd.S_far (p := ⟨gb149, 1, none⟩) (Kd.S_far (p := ⟨gb149, 0, none⟩) (Kd.S_mono HO_6.out (fun k_ hk => (⟨hk, hk.2⟩ : _ ∧ k_ ≠ gb149))) (fun _ hk => hk.2) (.int .i64 ((rd_T36 t145 x21_1).f0))) (fun _ hk => hk.2) (.string ((rd_T36 t145 x21_1).f1))) (fun _ hk => hk.2) (.int .i64 ((rd_T36 t145 x21_1).f2))) (fun _ hk => ⟨hk.1.1, hk.1.2⟩)⟩, ⟨by (with_reducible repeat (first | apply Kd.R_alloc | apply Kd.R_drewN | apply Kd.R_drew)); exact Kd.R_mono (Kd.R_far (p := ⟨gb149, 2, none⟩) (Kd.R_far (p := ⟨gb149, 1, none⟩) (Kd.R_far (p := ⟨gb149, 0, none⟩) (Kd.R_mono HO_19.out (fun k_ hk => (⟨hk, hk.2⟩ : _ ∧ k_ ≠ gb149))) (fun _ hk => hk.2) (.int .i64 ((rd_T36 t145 x21_1).f0))) (fun _ hk => hk.2) (.string ((rd_T36 t145 x21_1).f1))) (fun _ hk => hk.2) (.int .i64 ((rd_T36 t145 x21_1).f2))) (fun _ hk => hk.1.2)⟩, ⟨by (with_reducible repeat (first | refine blk_drewN ?_ _ | refine blk_drew ?_ | refine blk_alloc ?_ _)); refine blk_far ?_ NB140_149.out _; (with_reducible repeat (first | refine blk_drewN ?_ _ | refine blk_drew ?_ | refine blk_alloc ?_ _)); refine blk_far ?_ NB140_149.out _; (with_reducible repeat (first | refine blk_drewN ?_ _ | refine blk_drew ?_ | refine blk_alloc ?_ _)); refine blk_far ?_ NB140_149.out _; (with_reducible repeat (first | refine blk_drewN ?_ _ | refine blk_drew ?_ | refine blk_alloc ?_ _)); exact BK140.out⟩, ⟨by (with_reducible repeat (first | refine blk_drewN ?_ _ | refine blk_drew ?_ | refine blk_alloc ?_ _)); refine blk_far ?_ NB144_149.out _; (with_reducible repeat (first | refine blk_drewN ?_ _ | refine blk_drew ?_ | refine blk_alloc ?_ _)); refine blk_far ?_ NB144_149.out _; (with_reducible repeat (first | refine blk_drewN ?_ _ | refine blk_drew ?_ | refine blk_alloc ?_ _)); refine blk_far ?_ NB144_149.out _; (with_reducible repeat (first | refine blk_drewN ?_ _ | refine blk_drew ?_ | refine blk_alloc ?_ _)); exact BK144.out⟩, ⟨by (with_reducible repeat (first | refine blk_drewN ?_ _ | refine blk_drew ?_ | refine blk_alloc ?_ _)); refine blk_put (cs := #[.int .i64 ((rd_T36 t145 x21_1).f0), .string ((rd_T36 t145 x21_1).f1), .int .i64 0]) ?_ 2 _ rfl; (with_reducible repeat (first | refine blk_drewN ?_ _ | refine blk_drew ?_ | refine blk_alloc ?_ _)); refine blk_put (cs := #[.int .i64 ((rd_T36 t145 x21_1).f0), .string (⟨#[]⟩ : ByteArray), .int .i64 0]) ?_ 1 _ rfl; (with_reducible repeat (first | refine blk_drewN ?_ _ | refine blk_drew ?_ | refine blk_alloc ?_ _)); refine blk_put (cs := #[.int .i64 0, .string (⟨#[]⟩ : ByteArray), .int .i64 0]) ?_ 0 _ rfl; (with_reducible repeat (first | refine blk_drewN ?_ _ | refine blk_drew ?_ | refine blk_alloc ?_ _)); exact BK149.out⟩, ⟨by repeat (first | (with_reducible first | exact HB.out | apply below_alloc | apply pw_below_drewN | apply below_drew1 | refine below_set ?_ GE140.out | refine below_set ?_ GE144.out | refine below_set ?_ GE149.out) | exact HB.out)⟩⟩
                  · rw [if_neg c33] at H
                    exact absurd H (by simp)
              case rest =>
                clear HC24
                try clear c1
                try clear p1
                try clear q1
                try clear hx1
                try clear c2
                try clear p2
                try clear c3
                try clear p3
                try clear q3
                try clear hx3
                try clear qi3
                try clear c4
                try clear c7
                try clear c8
                try clear c9
                try clear p14
                try clear q14
                try clear hx14
                try clear c17
                try clear c21
                try clear c21b0
                try clear c22
                try clear c22b0
                try clear c23
                try clear c23b0
                try clear c26
                try clear c27
                try clear c29
                try clear c29b0
                try clear c29b1
                try clear c30
                try clear c31
                try clear c33
                try clear c33b0
                try clear c33b1
                try clear p34
                try clear q34
                try clear hx34
                try clear qi34
                try clear c35
                try clear c36
                try clear hcz18_0
                try clear hcz18_1
                try clear hcz28_0
                try clear hcz28_1
                try clear hcz28_2
                try clear hcz32_0
                try clear hcz32_1
                try clear hcz32_2
                try clear hcz37_0
                try clear hcz37_1
                try clear hcz37_2
                try clear hcz8_0
                try clear hcz8_1
                try clear hfz18_0
                try clear hfz18_1
                try clear hfz28_0
                try clear hfz28_1
                try clear hfz28_2
                try clear hfz32_0
                try clear hfz32_1
                try clear hfz32_2
                try clear hfz37_0
                try clear hfz37_1
                try clear hfz37_2
                try clear hfz8_0
                try clear hfz8_1
                try clear hx148_0
                try clear hx148_1
                try clear hx148_2
                try clear p148
                try clear p2
                try clear p34
                try clear q148
                try clear q34
                obtain ⟨kq, x33_23, rfl, HA, HJ23, HO_6, HO_19, BK140, BK144, BK149, HB⟩ := hcut
                cases kq with
                | zero => exact absurd HA.out (by simp [dnsl_Parse.j1])
                | succ kj23 =>
                  have H := HA.out
                  clear HA
                  simp only [dnsl_Parse.j1] at H
                  by_cases c38 : x33_23 = true
                  · subst c38
                    have H1 : (dnsl_Parse.l0 kj23 x6_1 t145 (t145.length : Int) (wrap64 (x21_1 + 1))) = some (r1, r2, r3) := by rw [if_pos rfl] at H; exact H
                    clear H
                    have H := H1
                    clear H1
                    have H' := Aside0.mk H
                    clear H
                    go_wp2
                    go_roundg kj23
                    case measure => have := HK1.out; have := HJ23.out; omega
                    case rel => exact ⟨(x6_1), (wrap64 (x21_1 + 1)), (x141000_1), (x141001_1), (by first | rfl | (simp only [i64_w]; done) | (simp; done) | (simp [*]; done)), H', ⟨by have := HK1.out; have := HJ23.out; omega⟩, ⟨by (with_reducible repeat (first | apply Kd.S_alloc | apply Kd.S_drewN | apply Kd.S_drew)); exact Kd.S_mono HO_6.out (fun _ hk => hk.1)⟩, ⟨by (with_reducible repeat (first | apply Kd.R_alloc | apply Kd.R_drewN | apply Kd.R_drew)); exact Kd.R_mono HO_19.out (fun _ hk => trivial)⟩, ⟨by (with_reducible repeat (first | refine blk_drewN ?_ _ | refine blk_drew ?_ | refine blk_alloc ?_ _)); exact BK140.out⟩, ⟨by (with_reducible repeat (first | refine blk_drewN ?_ _ | refine blk_drew ?_ | refine blk_alloc ?_ _)); exact BK144.out⟩, ⟨by repeat (first | (with_reducible first | exact HB.out | apply below_alloc | apply pw_below_drewN | apply below_drew1 | refine below_set ?_ GE140.out | refine below_set ?_ GE144.out | refine below_set ?_ GE149.out) | exact HB.out)⟩⟩
                  · replace c38 := Bool.eq_false_iff.mpr c38
                    subst c38
                    have H1 : ((dnsl_row.f kj23 ((rd_T36 t145 x21_1).f0) ((rd_T36 t145 x21_1).f1) ((rd_T36 t145 x21_1).f2)).bind fun bt150 => (if bt150.2.2.2.1 = 0 then (if x6_1.length < 2932031007402 then (dnsl_Parse.l0 kj23 (x6_1 ++ [(⟨bt150.1, bt150.2.1, bt150.2.2.1⟩ : S34)]) t145 (t145.length : Int) (wrap64 (x21_1 + 1))) else (none)) else (some (([] : List (S34)), bt150.2.2.2.1, bt150.2.2.2.2)))) = some (r1, r2, r3) := by rw [if_neg (show ¬ (false = true) by decide)] at H; exact H
                    clear H
                    have H := H1
                    clear H1
                    replace H := Option.bind_eq_some_iff.mp H
                    obtain ⟨⟨t150, t151, t154, t155, t156⟩, A390, H⟩ := H
                    replace H : (if t155 = 0 then (if x6_1.length < 2932031007402 then (dnsl_Parse.l0 kj23 (x6_1 ++ [(⟨t150, t151, t154⟩ : S34)]) t145 (t145.length : Int) (wrap64 (x21_1 + 1))) else (none)) else (some (([] : List (S34)), t155, t156))) = some (r1, r2, r3) := H
                    have A39 := Aside0.mk A390
                    clear A390
                    by_cases c40 : t155 = 0
                    · rw [if_pos c40] at H
                      have c40b0 : (t155 == 0) = true := beq_iff_eq.mpr c40
                      have c40b1 : (t155 != 0) = false := bne_eq_false_iff_eq.mpr c40
                      clear c40
                      by_cases c41 : x6_1.length < 2932031007402
                      · rw [if_pos c41] at H
                        have LMc41 := Aside0.mk c41
                        clear c41
                        obtain ⟨y159, hy159⟩ : ∃ y_ : List (S34), y_ = (x6_1 ++ [(⟨t150, t151, t154⟩ : S34)]) := ⟨_, rfl⟩
                        replace H : (dnsl_Parse.l0 kj23 y159 t145 (t145.length : Int) (wrap64 (x21_1 + 1))) = some (r1, r2, r3) := by first | (rw [hy159]; with_reducible exact H) | (have H2_ := (Option.bind_some _ _).symm.trans H; rw [hy159]; with_reducible exact H2_) | (have H2_ := (Option.bind_some _ _).symm.trans H; with_reducible exact H2_) | with_reducible exact H | (rw [hy159]; exact H) | exact H
                        have Ny159 := Aside0.mk hy159
                        clear hy159
                        have H' := Aside0.mk H
                        clear H
                        have hnb42 := NB149_140.out
                        have hnc42 := NB140_149.out
                        have hnb43 := NB149_144.out
                        have hnc43 := NB144_149.out
                        have hcz44_0 : wc.cell? ⟨gb149, 0, none⟩ = some (.int .i64 ((rd_T36 t145 x21_1).f0)) := (blk_cell BK149.out 0).trans rfl
                        have hcz44_1 : wc.cell? ⟨gb149, 1, none⟩ = some (.string ((rd_T36 t145 x21_1).f1)) := (blk_cell BK149.out 1).trans rfl
                        have hcz44_2 : wc.cell? ⟨gb149, 2, none⟩ = some (.int .i64 ((rd_T36 t145 x21_1).f2)) := (blk_cell BK149.out 2).trans rfl
                        have hfz44_0 := blk_frozen BK149.out 0
                        have hfz44_1 := blk_frozen BK149.out 1
                        have hfz44_2 := blk_frozen BK149.out 2
                        go_wp2_with (first | ((with_reducible refine gate_callee (f := 10) rfl ?_); refine goesL_ (some 36) rfl rfl Try.func10 (by kernel_rfl) rfl #[.agg #[.int .i64 ((rd_T36 t145 x21_1).f0), .string ((rd_T36 t145 x21_1).f1), .int .i64 ((rd_T36 t145 x21_1).f2)]] rfl (by (try simp only [List.map_toArray, List.map_cons, List.map_nil]); first | done | rfl | (simp only [List.length_drop, List.length_take]; rfl)) ?_; (with_reducible refine (dnsl_row.calls kj23 ((rd_T36 t145 x21_1).f0) ((rd_T36 t145 x21_1).f1) ((rd_T36 t145 x21_1).f2) t150 t151 t154 t155 t156 _ A39.out).mono ?_); rintro e w45 ⟨v152, rfl, ho0, hb⟩; refine ⟨_, rfl, ?_⟩; have n0_ := Aside0.mk (Kd.S_elder' (by (with_reducible repeat (first | apply Kd.S_alloc | apply Kd.S_drewN | apply Kd.S_drew)); exact HO_6.out) (Kd.R_base ho0) hb); have n1_ := Aside0.mk (Kd.R_elder' (by (with_reducible repeat (first | apply Kd.R_alloc | apply Kd.R_drewN | apply Kd.R_drew)); exact HO_19.out) (Kd.R_base ho0) hb); have n2_ := Aside0.mk (Kd.R_lower (Kd.R_newB (Kd.R_new' ho0 (Kd.R_lt (by (with_reducible repeat (first | apply Kd.R_alloc | apply Kd.R_drewN | apply Kd.R_drew)); exact HO_19.out))) (g := gb149) (o := .cells #[.int .i64 ((rd_T36 t145 x21_1).f0), .string ((rd_T36 t145 x21_1).f1), .int .i64 ((rd_T36 t145 x21_1).f2)] 36 (0, 0)) (by (with_reducible repeat (first | refine blk_drewN ?_ _ | refine blk_drew ?_ | refine blk_alloc ?_ _)); exact BK149.out)) (below_size (by repeat (first | (with_reducible first | exact HB.out | apply below_alloc | apply pw_below_drewN | apply below_drew1 | refine below_set ?_ GE140.out | refine below_set ?_ GE144.out | refine below_set ?_ GE149.out) | exact HB.out)))); have n3_ := Aside0.mk (blk_below (g := gb140) (o := .cells #[.int .i64 x141000_1, .int .i64 x141001_1] 26 (0, 0)) (by (with_reducible repeat (first | refine blk_drewN ?_ _ | refine blk_drew ?_ | refine blk_alloc ?_ _)); exact BK140.out) hb); have n4_ := Aside0.mk (blk_below (g := gb144) (o := .cells #[.int .i64 t141, .int .i64 t142] 26 (0, 0)) (by (with_reducible repeat (first | refine blk_drewN ?_ _ | refine blk_drew ?_ | refine blk_alloc ?_ _)); exact BK144.out) hb); have n5_ := Aside0.mk (blk_below (g := gb149) (o := .cells #[.int .i64 ((rd_T36 t145 x21_1).f0), .string ((rd_T36 t145 x21_1).f1), .int .i64 ((rd_T36 t145 x21_1).f2)] 36 (0, 0)) (by (with_reducible repeat (first | refine blk_drewN ?_ _ | refine blk_drew ?_ | refine blk_alloc ?_ _)); exact BK149.out) hb); have n6_ := Aside0.mk (below_step (by repeat (first | (with_reducible first | exact HB.out | apply below_alloc | apply pw_below_drewN | apply below_drew1 | refine below_set ?_ GE140.out | refine below_set ?_ GE144.out | refine below_set ?_ GE149.out) | exact HB.out)) hb); clear HO_6; clear HO_19; clear BK140; clear BK144; clear BK149; clear HB; have HO_6 := n0_; have HO_19 := n1_; have HO153 := n2_; have BK140 := n3_; have BK144 := n4_; have BK149 := n5_; have HB := n6_; clear n0_ n1_ n2_ n3_ n4_ n5_ n6_; (try clear hb); (try clear hb2); (try clear hk); (try clear hi); (try clear ho0)) | ((with_reducible refine gate_dst (N := 9) rfl ?_); refine box_event ?hg (N := 9) ?hd (cs := #[.string (⟨#[]⟩ : ByteArray), .slice none 0 0, .int .i64 0]) (t := 34) ?hr ?_; (case hd => rfl); (case hg => rfl); (case hr => first | (go_simp; done) | (go_simp; rfl)); intro gb157 hg w46 hbox hb; have n0_ := Aside0.mk (Kd.S_below (Kd.S_elderB (by (with_reducible repeat (first | apply Kd.S_alloc | apply Kd.S_drewN | apply Kd.S_drew)); exact HO_6.out) gb157 (Nat.le_of_eq hg.symm)) hb); have n1_ := Aside0.mk (Kd.R_below (by (with_reducible repeat (first | apply Kd.R_alloc | apply Kd.R_drewN | apply Kd.R_drew)); exact HO_19.out) hb); have n2_ := Aside0.mk (Kd.R_below (by (with_reducible repeat (first | apply Kd.R_alloc | apply Kd.R_drewN | apply Kd.R_drew)); exact HO153.out) hb); have n3_ := Aside0.mk (blk_below (g := gb140) (o := .cells #[.int .i64 x141000_1, .int .i64 x141001_1] 26 (0, 0)) (by (with_reducible repeat (first | refine blk_drewN ?_ _ | refine blk_drew ?_ | refine blk_alloc ?_ _)); exact BK140.out) hb); have n4_ := Aside0.mk (blk_below (g := gb144) (o := .cells #[.int .i64 t141, .int .i64 t142] 26 (0, 0)) (by (with_reducible repeat (first | refine blk_drewN ?_ _ | refine blk_drew ?_ | refine blk_alloc ?_ _)); exact BK144.out) hb); have n5_ := Aside0.mk (blk_below (g := gb149) (o := .cells #[.int .i64 ((rd_T36 t145 x21_1).f0), .string ((rd_T36 t145 x21_1).f1), .int .i64 ((rd_T36 t145 x21_1).f2)] 36 (0, 0)) (by (with_reducible repeat (first | refine blk_drewN ?_ _ | refine blk_drew ?_ | refine blk_alloc ?_ _)); exact BK149.out) hb); have n6_ := Aside0.mk (below_step (by repeat (first | (with_reducible first | exact HB.out | apply below_alloc | apply pw_below_drewN | apply below_drew1 | refine below_set ?_ GE140.out | refine below_set ?_ GE144.out | refine below_set ?_ GE149.out) | exact HB.out)) hb); have n7_ := Aside0.mk (hbox); have n8_ := Aside0.mk ((by rw [hg]; exact (below_size (by repeat (first | (with_reducible first | exact HB.out | apply below_alloc | apply pw_below_drewN | apply below_drew1 | refine below_set ?_ GE140.out | refine below_set ?_ GE144.out | refine below_set ?_ GE149.out) | exact HB.out))) : w.heap.size ≤ gb157)); have n9_ := Aside0.mk ((by rw [hg]; exact (below_size (by repeat (first | (with_reducible first | exact HB.out | apply below_alloc | apply pw_below_drewN | apply below_drew1 | refine below_set ?_ GE140.out | refine below_set ?_ GE144.out | refine below_set ?_ GE149.out) | exact HB.out))) : w.heap.size ≤ gb157)); have n10_ := Aside0.mk ((by rw [hg]; exact Nat.ne_of_lt (blk_lt (g := gb140) (o := .cells #[.int .i64 x141000_1, .int .i64 x141001_1] 26 (0, 0)) (by (with_reducible repeat (first | refine blk_drewN ?_ _ | refine blk_drew ?_ | refine blk_alloc ?_ _)); exact BK140.out)) : gb140 ≠ gb157)); have n11_ := Aside0.mk ((by rw [hg]; exact Nat.ne_of_gt (blk_lt (g := gb140) (o := .cells #[.int .i64 x141000_1, .int .i64 x141001_1] 26 (0, 0)) (by (with_reducible repeat (first | refine blk_drewN ?_ _ | refine blk_drew ?_ | refine blk_alloc ?_ _)); exact BK140.out)) : gb157 ≠ gb140)); have n12_ := Aside0.mk ((by rw [hg]; exact Nat.ne_of_lt (blk_lt (g := gb144) (o := .cells #[.int .i64 t141, .int .i64 t142] 26 (0, 0)) (by (with_reducible repeat (first | refine blk_drewN ?_ _ | refine blk_drew ?_ | refine blk_alloc ?_ _)); exact BK144.out)) : gb144 ≠ gb157)); have n13_ := Aside0.mk ((by rw [hg]; exact Nat.ne_of_gt (blk_lt (g := gb144) (o := .cells #[.int .i64 t141, .int .i64 t142] 26 (0, 0)) (by (with_reducible repeat (first | refine blk_drewN ?_ _ | refine blk_drew ?_ | refine blk_alloc ?_ _)); exact BK144.out)) : gb157 ≠ gb144)); have n14_ := Aside0.mk ((by rw [hg]; exact Nat.ne_of_lt (blk_lt (g := gb149) (o := .cells #[.int .i64 ((rd_T36 t145 x21_1).f0), .string ((rd_T36 t145 x21_1).f1), .int .i64 ((rd_T36 t145 x21_1).f2)] 36 (0, 0)) (by (with_reducible repeat (first | refine blk_drewN ?_ _ | refine blk_drew ?_ | refine blk_alloc ?_ _)); exact BK149.out)) : gb149 ≠ gb157)); have n15_ := Aside0.mk ((by rw [hg]; exact Nat.ne_of_gt (blk_lt (g := gb149) (o := .cells #[.int .i64 ((rd_T36 t145 x21_1).f0), .string ((rd_T36 t145 x21_1).f1), .int .i64 ((rd_T36 t145 x21_1).f2)] 36 (0, 0)) (by (with_reducible repeat (first | refine blk_drewN ?_ _ | refine blk_drew ?_ | refine blk_alloc ?_ _)); exact BK149.out)) : gb157 ≠ gb149)); clear HO_6; clear HO_19; clear HO153; clear BK140; clear BK144; clear BK149; clear HB; have HO_6 := n0_; have HO_19 := n1_; have HO153 := n2_; have BK140 := n3_; have BK144 := n4_; have BK149 := n5_; have HB := n6_; have BK157 := n7_; have GW157 := n8_; have GE157 := n9_; have NB140_157 := n10_; have NB157_140 := n11_; have NB144_157 := n12_; have NB157_144 := n13_; have NB149_157 := n14_; have NB157_149 := n15_; clear n0_ n1_ n2_ n3_ n4_ n5_ n6_ n7_ n8_ n9_ n10_ n11_ n12_ n13_ n14_ n15_; clear hb hbox hg) | ((with_reducible refine gate_dst (N := 10) rfl ?_); refine box_event ?hg (N := 10) ?hd (cs := #[.int .i64 0, .int .i64 0]) (t := 26) ?hr ?_; (case hd => rfl); (case hg => rfl); (case hr => first | (go_simp; done) | (go_simp; rfl)); intro gb158 hg w47 hbox hb; have n0_ := Aside0.mk (Kd.S_below (by (with_reducible repeat (first | apply Kd.S_alloc | apply Kd.S_drewN | apply Kd.S_drew)); exact HO_6.out) hb); have n1_ := Aside0.mk (Kd.R_below (by (with_reducible repeat (first | apply Kd.R_alloc | apply Kd.R_drewN | apply Kd.R_drew)); exact HO_19.out) hb); have n2_ := Aside0.mk (Kd.R_below (by (with_reducible repeat (first | apply Kd.R_alloc | apply Kd.R_drewN | apply Kd.R_drew)); exact HO153.out) hb); have n3_ := Aside0.mk (blk_below (g := gb140) (o := .cells #[.int .i64 x141000_1, .int .i64 x141001_1] 26 (0, 0)) (by (with_reducible repeat (first | refine blk_drewN ?_ _ | refine blk_drew ?_ | refine blk_alloc ?_ _)); exact BK140.out) hb); have n4_ := Aside0.mk (blk_below (g := gb144) (o := .cells #[.int .i64 t141, .int .i64 t142] 26 (0, 0)) (by (with_reducible repeat (first | refine blk_drewN ?_ _ | refine blk_drew ?_ | refine blk_alloc ?_ _)); exact BK144.out) hb); have n5_ := Aside0.mk (blk_below (g := gb149) (o := .cells #[.int .i64 ((rd_T36 t145 x21_1).f0), .string ((rd_T36 t145 x21_1).f1), .int .i64 ((rd_T36 t145 x21_1).f2)] 36 (0, 0)) (by (with_reducible repeat (first | refine blk_drewN ?_ _ | refine blk_drew ?_ | refine blk_alloc ?_ _)); exact BK149.out) hb); have n6_ := Aside0.mk (blk_below (g := gb157) (o := .cells #[.string (⟨#[]⟩ : ByteArray), .slice none 0 0, .int .i64 0] 34 (0, 0)) (by (with_reducible repeat (first | refine blk_drewN ?_ _ | refine blk_drew ?_ | refine blk_alloc ?_ _)); exact BK157.out) hb); have n7_ := Aside0.mk (below_step (by repeat (first | (with_reducible first | exact HB.out | apply below_alloc | apply pw_below_drewN | apply below_drew1 | refine below_set ?_ GE140.out | refine below_set ?_ GE144.out | refine below_set ?_ GE149.out | refine below_set ?_ GE157.out) | exact HB.out)) hb); have n8_ := Aside0.mk (hbox); have n9_ := Aside0.mk ((by rw [hg]; exact (below_size (by repeat (first | (with_reducible first | exact HB.out | apply below_alloc | apply pw_below_drewN | apply below_drew1 | refine below_set ?_ GE140.out | refine below_set ?_ GE144.out | refine below_set ?_ GE149.out | refine below_set ?_ GE157.out) | exact HB.out))) : w.heap.size ≤ gb158)); have n10_ := Aside0.mk ((by rw [hg]; exact (below_size (by repeat (first | (with_reducible first | exact HB.out | apply below_alloc | apply pw_below_drewN | apply below_drew1 | refine below_set ?_ GE140.out | refine below_set ?_ GE144.out | refine below_set ?_ GE149.out | refine below_set ?_ GE157.out) | exact HB.out))) : w.heap.size ≤ gb158)); have n11_ := Aside0.mk ((by rw [hg]; exact Nat.ne_of_lt (blk_lt (g := gb140) (o := .cells #[.int .i64 x141000_1, .int .i64 x141001_1] 26 (0, 0)) (by (with_reducible repeat (first | refine blk_drewN ?_ _ | refine blk_drew ?_ | refine blk_alloc ?_ _)); exact BK140.out)) : gb140 ≠ gb158)); have n12_ := Aside0.mk ((by rw [hg]; exact Nat.ne_of_gt (blk_lt (g := gb140) (o := .cells #[.int .i64 x141000_1, .int .i64 x141001_1] 26 (0, 0)) (by (with_reducible repeat (first | refine blk_drewN ?_ _ | refine blk_drew ?_ | refine blk_alloc ?_ _)); exact BK140.out)) : gb158 ≠ gb140)); have n13_ := Aside0.mk ((by rw [hg]; exact Nat.ne_of_lt (blk_lt (g := gb144) (o := .cells #[.int .i64 t141, .int .i64 t142] 26 (0, 0)) (by (with_reducible repeat (first | refine blk_drewN ?_ _ | refine blk_drew ?_ | refine blk_alloc ?_ _)); exact BK144.out)) : gb144 ≠ gb158)); have n14_ := Aside0.mk ((by rw [hg]; exact Nat.ne_of_gt (blk_lt (g := gb144) (o := .cells #[.int .i64 t141, .int .i64 t142] 26 (0, 0)) (by (with_reducible repeat (first | refine blk_drewN ?_ _ | refine blk_drew ?_ | refine blk_alloc ?_ _)); exact BK144.out)) : gb158 ≠ gb144)); have n15_ := Aside0.mk ((by rw [hg]; exact Nat.ne_of_lt (blk_lt (g := gb149) (o := .cells #[.int .i64 ((rd_T36 t145 x21_1).f0), .string ((rd_T36 t145 x21_1).f1), .int .i64 ((rd_T36 t145 x21_1).f2)] 36 (0, 0)) (by (with_reducible repeat (first | refine blk_drewN ?_ _ | refine blk_drew ?_ | refine blk_alloc ?_ _)); exact BK149.out)) : gb149 ≠ gb158)); have n16_ := Aside0.mk ((by rw [hg]; exact Nat.ne_of_gt (blk_lt (g := gb149) (o := .cells #[.int .i64 ((rd_T36 t145 x21_1).f0), .string ((rd_T36 t145 x21_1).f1), .int .i64 ((rd_T36 t145 x21_1).f2)] 36 (0, 0)) (by (with_reducible repeat (first | refine blk_drewN ?_ _ | refine blk_drew ?_ | refine blk_alloc ?_ _)); exact BK149.out)) : gb158 ≠ gb149)); have n17_ := Aside0.mk ((by rw [hg]; exact Nat.ne_of_lt (blk_lt (g := gb157) (o := .cells #[.string (⟨#[]⟩ : ByteArray), .slice none 0 0, .int .i64 0] 34 (0, 0)) (by (with_reducible repeat (first | refine blk_drewN ?_ _ | refine blk_drew ?_ | refine blk_alloc ?_ _)); exact BK157.out)) : gb157 ≠ gb158)); have n18_ := Aside0.mk ((by rw [hg]; exact Nat.ne_of_gt (blk_lt (g := gb157) (o := .cells #[.string (⟨#[]⟩ : ByteArray), .slice none 0 0, .int .i64 0] 34 (0, 0)) (by (with_reducible repeat (first | refine blk_drewN ?_ _ | refine blk_drew ?_ | refine blk_alloc ?_ _)); exact BK157.out)) : gb158 ≠ gb157)); clear HO_6; clear HO_19; clear HO153; clear BK140; clear BK144; clear BK149; clear BK157; clear HB; have HO_6 := n0_; have HO_19 := n1_; have HO153 := n2_; have BK140 := n3_; have BK144 := n4_; have BK149 := n5_; have BK157 := n6_; have HB := n7_; have BK158 := n8_; have GW158 := n9_; have GE158 := n10_; have NB140_158 := n11_; have NB158_140 := n12_; have NB144_158 := n13_; have NB158_144 := n14_; have NB149_158 := n15_; have NB158_149 := n16_; have NB157_158 := n17_; have NB158_157 := n18_; clear n0_ n1_ n2_ n3_ n4_ n5_ n6_ n7_ n8_ n9_ n10_ n11_ n12_ n13_ n14_ n15_ n16_ n17_ n18_; clear hb hbox hg; have hnb48 := NB157_140.out; have hnc48 := NB140_157.out; have hnb49 := NB157_144.out; have hnc49 := NB144_157.out; have hnb50 := NB157_149.out; have hnc50 := NB149_157.out; have hnb51 := NB157_158.out; have hnc51 := NB158_157.out; have hcz52_0 : w47.cell? ⟨gb157, 0, none⟩ = some (.string (⟨#[]⟩ : ByteArray)) := (blk_cell BK157.out 0).trans rfl; have hcz52_1 : w47.cell? ⟨gb157, 1, none⟩ = some (.slice none 0 0) := (blk_cell BK157.out 1).trans rfl; have hcz52_2 : w47.cell? ⟨gb157, 2, none⟩ = some (.int .i64 0) := (blk_cell BK157.out 2).trans rfl; have hfz52_0 := blk_frozen BK157.out 0; have hfz52_1 := blk_frozen BK157.out 1; have hfz52_2 := blk_frozen BK157.out 2; obtain ⟨Ao53, co53, eo53⟩ := Kd.R_slice HO153.out; subst eo53) | ((with_reducible refine gate_store (t := 34) (p := 9) rfl ?_); refine store_event (t := 34) (p := 9) (v := ?vo_w54) (w1 := (((w47.setCell ⟨gb157, 0, none⟩ (.string t150)).setCell ⟨gb157, 1, none⟩ (.slice Ao53 t151.length co53)).setCell ⟨gb157, 2, none⟩ (.int .i64 t154))) ?hg ?ho ?hn ?hr ?_; (case ho => rfl); (case hg => rfl); (case hn => rfl); (case hr => first | (go_simp; done) | (go_simp; rfl)); intro w54 hw; have n0_ : Aside0 (Kd.S k34 34 w54 w.heap.size (fun k_ => some k_ ≠ (.slice (some ad148) t145.length co20 : Value).ownBlock ∧ some k_ ≠ (.slice Ao53 t151.length co53 : Value).ownBlock ∧ k_ ≠ gb149 ∧ k_ ≠ gb157) u6 x6_1) := ⟨(by rw [hw]; exact (by (with_reducible repeat (first | apply Kd.S_alloc | apply Kd.S_drewN | apply Kd.S_drew)); exact Kd.S_mono (Kd.S_far (p := ⟨gb157, 2, none⟩) (Kd.S_far (p := ⟨gb157, 1, none⟩) (Kd.S_far (p := ⟨gb157, 0, none⟩) (Kd.S_mono HO_6.out (fun k_ hk => (⟨hk, hk.2⟩ : _ ∧ k_ ≠ gb157))) (fun _ hk => hk.2) (.string t150)) (fun _ hk => hk.2) (.slice Ao53 t151.length co53)) (fun _ hk => hk.2) (.int .i64 t154)) (fun _ hk => ⟨hk.1.1.1.1, ⟨hk.1.1.2, ⟨hk.1.1.1.2, hk.1.2⟩⟩⟩)))⟩; have n1_ : Aside0 (Kd.R k36 36 w54 w.heap.size (fun k_ => some k_ ≠ (.slice Ao53 t151.length co53 : Value).ownBlock ∧ k_ ≠ gb149) (.slice (some ad148) t145.length co20) t145) := ⟨(by rw [hw]; exact (by (with_reducible repeat (first | apply Kd.R_alloc | apply Kd.R_drewN | apply Kd.R_drew)); exact Kd.R_mono (Kd.R_far (p := ⟨gb157, 2, none⟩) (Kd.R_far (p := ⟨gb157, 1, none⟩) (Kd.R_far (p := ⟨gb157, 0, none⟩) (Kd.R_types HO_19.out BK157.out (by decide)) (fun _ hk => hk.2) (.string t150)) (fun _ hk => hk.2) (.slice Ao53 t151.length co53)) (fun _ hk => hk.2) (.int .i64 t154)) (fun _ hk => ⟨hk.1.2, hk.1.1⟩)))⟩; have n2_ : Aside0 (Kd.R k36 36 w54 w.heap.size (fun k_ => some k_ ≠ (.slice (some ad148) t145.length co20 : Value).ownBlock ∧ k_ ≠ gb149) (.slice Ao53 t151.length co53) t151) := ⟨(by rw [hw]; exact (by (with_reducible repeat (first | apply Kd.R_alloc | apply Kd.R_drewN | apply Kd.R_drew)); exact Kd.R_mono (Kd.R_far (p := ⟨gb157, 2, none⟩) (Kd.R_far (p := ⟨gb157, 1, none⟩) (Kd.R_far (p := ⟨gb157, 0, none⟩) (Kd.R_types HO153.out BK157.out (by decide)) (fun _ hk => hk.2) (.string t150)) (fun _ hk => hk.2) (.slice Ao53 t151.length co53)) (fun _ hk => hk.2) (.int .i64 t154)) (fun _ hk => ⟨hk.1.1.2, hk.1.2⟩)))⟩; have n3_ : Aside0 (w54.heap[gb140]? = some (.cells #[.int .i64 x141000_1, .int .i64 x141001_1] 26 (0, 0))) := ⟨(by rw [hw]; exact (by (with_reducible repeat (first | refine blk_drewN ?_ _ | refine blk_drew ?_ | refine blk_alloc ?_ _)); refine blk_far ?_ NB140_157.out _; (with_reducible repeat (first | refine blk_drewN ?_ _ | refine blk_drew ?_ | refine blk_alloc ?_ _)); refine blk_far ?_ NB140_157.out _; (with_reducible repeat (first | refine blk_drewN ?_ _ | refine blk_drew ?_ | refine blk_alloc ?_ _)); refine blk_far ?_ NB140_157.out _; (with_reducible repeat (first | refine blk_drewN ?_ _ | refine blk_drew ?_ | refine blk_alloc ?_ _)); exact BK140.out))⟩; have n4_ : Aside0 (w54.heap[gb144]? = some (.cells #[.int .i64 t141, .int .i64 t142] 26 (0, 0))) := ⟨(by rw [hw]; exact (by (with_reducible repeat (first | refine blk_drewN ?_ _ | refine blk_drew ?_ | refine blk_alloc ?_ _)); refine blk_far ?_ NB144_157.out _; (with_reducible repeat (first | refine blk_drewN ?_ _ | refine blk_drew ?_ | refine blk_alloc ?_ _)); refine blk_far ?_ NB144_157.out _; (with_reducible repeat (first | refine blk_drewN ?_ _ | refine blk_drew ?_ | refine blk_alloc ?_ _)); refine blk_far ?_ NB144_157.out _; (with_reducible repeat (first | refine blk_drewN ?_ _ | refine blk_drew ?_ | refine blk_alloc ?_ _)); exact BK144.out))⟩; have n5_ : Aside0 (w54.heap[gb149]? = some (.cells #[.int .i64 ((rd_T36 t145 x21_1).f0), .string ((rd_T36 t145 x21_1).f1), .int .i64 ((rd_T36 t145 x21_1).f2)] 36 (0, 0))) := ⟨(by rw [hw]; exact (by (with_reducible repeat (first | refine blk_drewN ?_ _ | refine blk_drew ?_ | refine blk_alloc ?_ _)); refine blk_far ?_ NB149_157.out _; (with_reducible repeat (first | refine blk_drewN ?_ _ | refine blk_drew ?_ | refine blk_alloc ?_ _)); refine blk_far ?_ NB149_157.out _; (with_reducible repeat (first | refine blk_drewN ?_ _ | refine blk_drew ?_ | refine blk_alloc ?_ _)); refine blk_far ?_ NB149_157.out _; (with_reducible repeat (first | refine blk_drewN ?_ _ | refine blk_drew ?_ | refine blk_alloc ?_ _)); exact BK149.out))⟩; have n6_ : Aside0 (w54.heap[gb157]? = some (.cells #[.string t150, .slice Ao53 t151.length co53, .int .i64 t154] 34 (0, 0))) := ⟨(by rw [hw]; exact (by (with_reducible repeat (first | refine blk_drewN ?_ _ | refine blk_drew ?_ | refine blk_alloc ?_ _)); refine blk_put (cs := #[.string t150, .slice Ao53 t151.length co53, .int .i64 0]) ?_ 2 _ rfl; (with_reducible repeat (first | refine blk_drewN ?_ _ | refine blk_drew ?_ | refine blk_alloc ?_ _)); refine blk_put (cs := #[.string t150, .slice none 0 0, .int .i64 0]) ?_ 1 _ rfl; (with_reducible repeat (first | refine blk_drewN ?_ _ | refine blk_drew ?_ | refine blk_alloc ?_ _)); refine blk_put (cs := #[.string (⟨#[]⟩ : ByteArray), .slice none 0 0, .int .i64 0]) ?_ 0 _ rfl; (with_reducible repeat (first | refine blk_drewN ?_ _ | refine blk_drew ?_ | refine blk_alloc ?_ _)); exact BK157.out))⟩; have n7_ : Aside0 (w54.heap[gb158]? = some (.cells #[.int .i64 0, .int .i64 0] 26 (0, 0))) := ⟨(by rw [hw]; exact (by (with_reducible repeat (first | refine blk_drewN ?_ _ | refine blk_drew ?_ | refine blk_alloc ?_ _)); refine blk_far ?_ NB158_157.out _; (with_reducible repeat (first | refine blk_drewN ?_ _ | refine blk_drew ?_ | refine blk_alloc ?_ _)); refine blk_far ?_ NB158_157.out _; (with_reducible repeat (first | refine blk_drewN ?_ _ | refine blk_drew ?_ | refine blk_alloc ?_ _)); refine blk_far ?_ NB158_157.out _; (with_reducible repeat (first | refine blk_drewN ?_ _ | refine blk_drew ?_ | refine blk_alloc ?_ _)); exact BK158.out))⟩; have n8_ : Aside0 (Below w.heap.size w w54) := ⟨(by rw [hw]; exact (by repeat (first | (with_reducible first | exact HB.out | apply below_alloc | apply pw_below_drewN | apply below_drew1 | refine below_set ?_ GE140.out | refine below_set ?_ GE144.out | refine below_set ?_ GE149.out | refine below_set ?_ GE157.out | refine below_set ?_ GE158.out) | exact HB.out)))⟩; clear hw; clear HO_6; clear HO_19; clear HO153; clear BK140; clear BK144; clear BK149; clear BK157; clear BK158; clear HB; have HO_6 := n0_; have HO_19 := n1_; have HO153 := n2_; have BK140 := n3_; have BK144 := n4_; have BK149 := n5_; have BK157 := n6_; have BK158 := n7_; have HB := n8_; clear n0_ n1_ n2_ n3_ n4_ n5_ n6_ n7_ n8_; have hnb55 := NB158_140.out; have hnc55 := NB140_158.out; have hnb56 := NB158_144.out; have hnc56 := NB144_158.out; have hnb57 := NB158_149.out; have hnc57 := NB149_158.out; have hcz58_0 : w54.cell? ⟨gb158, 0, none⟩ = some (.int .i64 0) := (blk_cell BK158.out 0).trans rfl; have hcz58_1 : w54.cell? ⟨gb158, 1, none⟩ = some (.int .i64 0) := (blk_cell BK158.out 1).trans rfl; have hfz58_0 := blk_frozen BK158.out 0; have hfz58_1 := blk_frozen BK158.out 1) | ((with_reducible refine gate_store (t := 26) (p := 10) rfl ?_); refine store_event (t := 26) (p := 10) (v := ?vo_w59) (w1 := ((w54.setCell ⟨gb158, 0, none⟩ (.int .i64 t155)).setCell ⟨gb158, 1, none⟩ (.int .i64 t156))) ?hg ?ho ?hn ?hr ?_; (case ho => rfl); (case hg => rfl); (case hn => rfl); (case hr => first | (go_simp; done) | (go_simp; rfl)); intro w59 hw; have n0_ : Aside0 (Kd.S k34 34 w59 w.heap.size (fun k_ => some k_ ≠ (.slice (some ad148) t145.length co20 : Value).ownBlock ∧ some k_ ≠ (.slice Ao53 t151.length co53 : Value).ownBlock ∧ k_ ≠ gb149 ∧ k_ ≠ gb157) u6 x6_1) := ⟨(by rw [hw]; exact (by (with_reducible repeat (first | apply Kd.S_alloc | apply Kd.S_drewN | apply Kd.S_drew)); exact Kd.S_mono (Kd.S_far (p := ⟨gb158, 1, none⟩) (Kd.S_far (p := ⟨gb158, 0, none⟩) (Kd.S_types HO_6.out BK158.out (by decide)) (fun _ hk => hk.2) (.int .i64 t155)) (fun _ hk => hk.2) (.int .i64 t156)) (fun _ hk => ⟨hk.1.1, ⟨hk.1.2.1, ⟨hk.1.2.2.1, hk.1.2.2.2⟩⟩⟩)))⟩; have n1_ : Aside0 (Kd.R k36 36 w59 w.heap.size (fun k_ => some k_ ≠ (.slice Ao53 t151.length co53 : Value).ownBlock ∧ k_ ≠ gb149) (.slice (some ad148) t145.length co20) t145) := ⟨(by rw [hw]; exact (by (with_reducible repeat (first | apply Kd.R_alloc | apply Kd.R_drewN | apply Kd.R_drew)); exact Kd.R_mono (Kd.R_far (p := ⟨gb158, 1, none⟩) (Kd.R_far (p := ⟨gb158, 0, none⟩) (Kd.R_types HO_19.out BK158.out (by decide)) (fun _ hk => hk.2) (.int .i64 t155)) (fun _ hk => hk.2) (.int .i64 t156)) (fun _ hk => ⟨hk.1.1, hk.1.2⟩)))⟩; have n2_ : Aside0 (Kd.R k36 36 w59 w.heap.size (fun k_ => some k_ ≠ (.slice (some ad148) t145.length co20 : Value).ownBlock ∧ k_ ≠ gb149) (.slice Ao53 t151.length co53) t151) := ⟨(by rw [hw]; exact (by (with_reducible repeat (first | apply Kd.R_alloc | apply Kd.R_drewN | apply Kd.R_drew)); exact Kd.R_mono (Kd.R_far (p := ⟨gb158, 1, none⟩) (Kd.R_far (p := ⟨gb158, 0, none⟩) (Kd.R_types HO153.out BK158.out (by decide)) (fun _ hk => hk.2) (.int .i64 t155)) (fun _ hk => hk.2) (.int .i64 t156)) (fun _ hk => ⟨hk.1.1, hk.1.2⟩)))⟩; have n3_ : Aside0 (w59.heap[gb140]? = some (.cells #[.int .i64 x141000_1, .int .i64 x141001_1] 26 (0, 0))) := ⟨(by rw [hw]; exact (by (with_reducible repeat (first | refine blk_drewN ?_ _ | refine blk_drew ?_ | refine blk_alloc ?_ _)); refine blk_far ?_ NB140_158.out _; (with_reducible repeat (first | refine blk_drewN ?_ _ | refine blk_drew ?_ | refine blk_alloc ?_ _)); refine blk_far ?_ NB140_158.out _; (with_reducible repeat (first | refine blk_drewN ?_ _ | refine blk_drew ?_ | refine blk_alloc ?_ _)); exact BK140.out))⟩; have n4_ : Aside0 (w59.heap[gb144]? = some (.cells #[.int .i64 t141, .int .i64 t142] 26 (0, 0))) := ⟨(by rw [hw]; exact (by (with_reducible repeat (first | refine blk_drewN ?_ _ | refine blk_drew ?_ | refine blk_alloc ?_ _)); refine blk_far ?_ NB144_158.out _; (with_reducible repeat (first | refine blk_drewN ?_ _ | refine blk_drew ?_ | refine blk_alloc ?_ _)); refine blk_far ?_ NB144_158.out _; (with_reducible repeat (first | refine blk_drewN ?_ _ | refine blk_drew ?_ | refine blk_alloc ?_ _)); exact BK144.out))⟩; have n5_ : Aside0 (w59.heap[gb149]? = some (.cells #[.int .i64 ((rd_T36 t145 x21_1).f0), .string ((rd_T36 t145 x21_1).f1), .int .i64 ((rd_T36 t145 x21_1).f2)] 36 (0, 0))) := ⟨(by rw [hw]; exact (by (with_reducible repeat (first | refine blk_drewN ?_ _ | refine blk_drew ?_ | refine blk_alloc ?_ _)); refine blk_far ?_ NB149_158.out _; (with_reducible repeat (first | refine blk_drewN ?_ _ | refine blk_drew ?_ | refine blk_alloc ?_ _)); refine blk_far ?_ NB149_158.out _; (with_reducible repeat (first | refine blk_drewN ?_ _ | refine blk_drew ?_ | refine blk_alloc ?_ _)); exact BK149.out))⟩; have n6_ : Aside0 (w59.heap[gb157]? = some (.cells #[.string t150, .slice Ao53 t151.length co53, .int .i64 t154] 34 (0, 0))) := ⟨(by rw [hw]; exact (by (with_reducible repeat (first | refine blk_drewN ?_ _ | refine blk_drew ?_ | refine blk_alloc ?_ _)); refine blk_far ?_ NB157_158.out _; (with_reducible repeat (first | refine blk_drewN ?_ _ | refine blk_drew ?_ | refine blk_alloc ?_ _)); refine blk_far ?_ NB157_158.out _; (with_reducible repeat (first | refine blk_drewN ?_ _ | refine blk_drew ?_ | refine blk_alloc ?_ _)); exact BK157.out))⟩; have n7_ : Aside0 (w59.heap[gb158]? = some (.cells #[.int .i64 t155, .int .i64 t156] 26 (0, 0))) := ⟨(by rw [hw]; exact (by (with_reducible repeat (first | refine blk_drewN ?_ _ | refine blk_drew ?_ | refine blk_alloc ?_ _)); refine blk_put (cs := #[.int .i64 t155, .int .i64 0]) ?_ 1 _ rfl; (with_reducible repeat (first | refine blk_drewN ?_ _ | refine blk_drew ?_ | refine blk_alloc ?_ _)); refine blk_put (cs := #[.int .i64 0, .int .i64 0]) ?_ 0 _ rfl; (with_reducible repeat (first | refine blk_drewN ?_ _ | refine blk_drew ?_ | refine blk_alloc ?_ _)); exact BK158.out))⟩; have n8_ : Aside0 (Below w.heap.size w w59) := ⟨(by rw [hw]; exact (by repeat (first | (with_reducible first | exact HB.out | apply below_alloc | apply pw_below_drewN | apply below_drew1 | refine below_set ?_ GE140.out | refine below_set ?_ GE144.out | refine below_set ?_ GE149.out | refine below_set ?_ GE157.out | refine below_set ?_ GE158.out) | exact HB.out)))⟩; clear hw; clear HO_6; clear HO_19; clear HO153; clear BK140; clear BK144; clear BK149; clear BK157; clear BK158; clear HB; have HO_6 := n0_; have HO_19 := n1_; have HO153 := n2_; have BK140 := n3_; have BK144 := n4_; have BK149 := n5_; have BK157 := n6_; have BK158 := n7_; have HB := n8_; clear n0_ n1_ n2_ n3_ n4_ n5_ n6_ n7_ n8_; have hcz60_0 : w59.cell? ⟨gb158, 0, none⟩ = some (.int .i64 t155) := (blk_cell BK158.out 0).trans rfl; have hcz60_1 : w59.cell? ⟨gb158, 1, none⟩ = some (.int .i64 t156) := (blk_cell BK158.out 1).trans rfl; have hfz60_0 := blk_frozen BK158.out 0; have hfz60_1 := blk_frozen BK158.out 1; have hcz61_0 : w59.cell? ⟨gb157, 0, none⟩ = some (.string t150) := (blk_cell BK157.out 0).trans rfl; have hcz61_1 : w59.cell? ⟨gb157, 1, none⟩ = some (.slice Ao53 t151.length co53) := (blk_cell BK157.out 1).trans rfl; have hcz61_2 : w59.cell? ⟨gb157, 2, none⟩ = some (.int .i64 t154) := (blk_cell BK157.out 2).trans rfl; have hfz61_0 := blk_frozen BK157.out 0; have hfz61_1 := blk_frozen BK157.out 1; have hfz61_2 := blk_frozen BK157.out 2) | ((with_reducible refine gate_builtin (b := .append) (xs := #[.tmp 43, .tmp 45]) rfl ?_); at_builtin; refine Kd.S_append k34 (w0 := w) w.heap.size rfl (.tmp 43) (.tmp 45) 24 34 (.agg #[(.string ⟨#[]⟩), (.slice none 0 0), (.int .i64 0)]) 48 rfl Try.underlying24 info34 rfl (by decide) (by omega) u6 x6_1 (⟨t150, t151, t154⟩ : S34) [.string t150, .slice Ao53 t151.length co53, .int .i64 t154] (fun k_ => some k_ ≠ (.slice (some ad148) t145.length co20 : Value).ownBlock ∧ k_ ≠ gb149 ∧ k_ ≠ gb157) (fun k_ => some k_ = (.slice Ao53 t151.length co53 : Value).ownBlock) rfl rfl ?aP (fun k_ hk_ => ((Kd.R_mono (ok' := fun k_ => ((fun k_ => some k_ ≠ (.slice (some ad148) t145.length co20 : Value).ownBlock ∧ k_ ≠ gb149 ∧ k_ ≠ gb157)) k_ ∧ some k_ ≠ (u6 : Value).ownBlock) (Kd.R_types (Kd.R_apart' (HO153.out) (Kd.S_typed HO_6.out) (by decide)) BK157.out (by decide)) (fun k_ hk => ⟨⟨hk.1.1.1, ⟨hk.1.1.2, hk.2⟩⟩, hk.1.2⟩))).1 k_ hk_.symm) ?aF ?aO ?aB ?aS ?aL ?_; (case aP => exact k34_mkM _ _ _ (⟨t150, t151, t154⟩ : S34) (Kd.R_mono (Kd.R_tight rfl (Kd.R_mono (ok' := fun k_ => ((fun k_ => some k_ ≠ (.slice (some ad148) t145.length co20 : Value).ownBlock ∧ k_ ≠ gb149 ∧ k_ ≠ gb157)) k_ ∧ some k_ ≠ (u6 : Value).ownBlock) (Kd.R_types (Kd.R_apart' (HO153.out) (Kd.S_typed HO_6.out) (by decide)) BK157.out (by decide)) (fun k_ hk => ⟨⟨hk.1.1.1, ⟨hk.1.1.2, hk.2⟩⟩, hk.1.2⟩))) (fun _ h_ => h_))); (case aB => exact (by repeat (first | (with_reducible first | exact HB.out | apply below_alloc | apply pw_below_drewN | apply below_drew1 | refine below_set ?_ GE140.out | refine below_set ?_ GE144.out | refine below_set ?_ GE149.out | refine below_set ?_ GE157.out | refine below_set ?_ GE158.out) | exact HB.out))); (case aF => exact (fun k_ hk => ⟨Kd.fresh' (Kd.R_lt (by (with_reducible repeat (first | apply Kd.R_alloc | apply Kd.R_drewN | apply Kd.R_drew)); exact HO_19.out)) k_ hk, Kd.freshB (g := gb149) (o := .cells #[.int .i64 ((rd_T36 t145 x21_1).f0), .string ((rd_T36 t145 x21_1).f1), .int .i64 ((rd_T36 t145 x21_1).f2)] 36 (0, 0)) (by (with_reducible repeat (first | refine blk_drewN ?_ _ | refine blk_drew ?_ | refine blk_alloc ?_ _)); exact BK149.out) k_ hk, Kd.freshB (g := gb157) (o := .cells #[.string t150, .slice Ao53 t151.length co53, .int .i64 t154] 34 (0, 0)) (by (with_reducible repeat (first | refine blk_drewN ?_ _ | refine blk_drew ?_ | refine blk_alloc ?_ _)); exact BK157.out) k_ hk⟩)); (case aO => exact (by (with_reducible repeat (first | apply Kd.S_alloc | apply Kd.S_drewN | apply Kd.S_drew)); exact Kd.S_mono HO_6.out (fun k_ hk => ⟨⟨hk.1, ⟨hk.2.2.1, hk.2.2.2⟩⟩, fun e_ => hk.2.1 e_⟩))); (case aS => exact (below_size (by repeat (first | (with_reducible first | exact HB.out | apply below_alloc | apply pw_below_drewN | apply below_drew1 | refine below_set ?_ GE140.out | refine below_set ?_ GE144.out | refine below_set ?_ GE149.out | refine below_set ?_ GE157.out | refine below_set ?_ GE158.out) | exact HB.out)))); (case aL => have := LMc41.out; omega); intro v160 w62 ho hb hg hat; rw [← Ny159.out] at ho; have n0_ := Aside0.mk (Kd.R_over' (by (with_reducible repeat (first | apply Kd.R_alloc | apply Kd.R_drewN | apply Kd.R_drew)); exact HO_19.out) (Kd.S_typed (by (with_reducible repeat (first | apply Kd.S_alloc | apply Kd.S_drewN | apply Kd.S_drew)); exact HO_6.out)) (by decide) hg); have n1_ := Aside0.mk (blk_grown (g := gb140) (o := .cells #[.int .i64 x141000_1, .int .i64 x141001_1] 26 (0, 0)) (by (with_reducible repeat (first | refine blk_drewN ?_ _ | refine blk_drew ?_ | refine blk_alloc ?_ _)); exact BK140.out) hg (Kd.S_ne HO_6.out BK140.out (by decide))); have n2_ := Aside0.mk (blk_grown (g := gb144) (o := .cells #[.int .i64 t141, .int .i64 t142] 26 (0, 0)) (by (with_reducible repeat (first | refine blk_drewN ?_ _ | refine blk_drew ?_ | refine blk_alloc ?_ _)); exact BK144.out) hg (Kd.S_ne HO_6.out BK144.out (by decide))); have n3_ := Aside0.mk (blk_grown (g := gb149) (o := .cells #[.int .i64 ((rd_T36 t145 x21_1).f0), .string ((rd_T36 t145 x21_1).f1), .int .i64 ((rd_T36 t145 x21_1).f2)] 36 (0, 0)) (by (with_reducible repeat (first | refine blk_drewN ?_ _ | refine blk_drew ?_ | refine blk_alloc ?_ _)); exact BK149.out) hg (Kd.S_ne HO_6.out BK149.out (by decide))); have n4_ := Aside0.mk (blk_grown (g := gb157) (o := .cells #[.string t150, .slice Ao53 t151.length co53, .int .i64 t154] 34 (0, 0)) (by (with_reducible repeat (first | refine blk_drewN ?_ _ | refine blk_drew ?_ | refine blk_alloc ?_ _)); exact BK157.out) hg (Kd.S_away HO_6.out (fun _ hk => hk.2.2.2))); have n5_ := Aside0.mk (blk_grown (g := gb158) (o := .cells #[.int .i64 t155, .int .i64 t156] 26 (0, 0)) (by (with_reducible repeat (first | refine blk_drewN ?_ _ | refine blk_drew ?_ | refine blk_alloc ?_ _)); exact BK158.out) hg (Kd.S_ne HO_6.out BK158.out (by decide))); have n6_ := Aside0.mk (hb); have n7_ := Aside0.mk (ho); clear HO_19; clear BK140; clear BK144; clear BK149; clear BK157; clear BK158; clear HB; clear HO_6; clear HO153; have HO_19 := n0_; have BK140 := n1_; have BK144 := n2_; have BK149 := n3_; have BK157 := n4_; have BK158 := n5_; have HB := n6_; have HO161 := n7_; clear n0_ n1_ n2_ n3_ n4_ n5_ n6_ n7_; clear ho hb hg hat))
                        go_roundg kj23
                        case measure => have := HK1.out; have := HJ23.out; omega
                        case rel => exact ⟨(y159), (wrap64 (x21_1 + 1)), (x141000_1), (x141001_1), (by first | rfl | (simp only [i64_w]; done) | (simp; done) | (simp [*]; done)), H', ⟨by have := HK1.out; have := HJ23.out; omega⟩, ⟨by (with_reducible repeat (first | apply Kd.S_alloc | apply Kd.S_drewN | apply Kd.S_drew)); exact Kd.S_mono HO161.out (fun _ hk => hk.1)⟩, ⟨by (with_reducible repeat (first | apply Kd.R_alloc | apply Kd.R_drewN | apply Kd.R_drew)); exact Kd.R_mono HO_19.out (fun _ hk => trivial)⟩, ⟨by (with_reducible repeat (first | refine blk_drewN ?_ _ | refine blk_drew ?_ | refine blk_alloc ?_ _)); exact BK140.out⟩, ⟨by (with_reducible repeat (first | refine blk_drewN ?_ _ | refine blk_drew ?_ | refine blk_alloc ?_ _)); exact BK144.out⟩, ⟨by repeat (first | (with_reducible first | exact HB.out | apply below_alloc | apply pw_below_drewN | apply below_drew1 | refine below_set ?_ GE140.out | refine below_set ?_ GE144.out | refine below_set ?_ GE149.out | refine below_set ?_ GE157.out | refine below_set ?_ GE158.out) | exact HB.out)⟩⟩
                      · rw [if_neg c41] at H
                        exact absurd H (by simp)
                    · rw [if_neg c40] at H
                      have c40b0 : (t155 == 0) = false := beq_eq_false_iff_ne.mpr c40
                      have c40b1 : (t155 != 0) = true := bne_iff_ne.mpr c40
                      simp only [Option.some.injEq, Prod.mk.injEq] at H
                      obtain ⟨rfl, rfl, rfl⟩ := H
                      have hnb63 := NB149_140.out
                      have hnc63 := NB140_149.out
                      have hnb64 := NB149_144.out
                      have hnc64 := NB144_149.out
                      have hcz65_0 : wc.cell? ⟨gb149, 0, none⟩ = some (.int .i64 ((rd_T36 t145 x21_1).f0)) := (blk_cell BK149.out 0).trans rfl
                      have hcz65_1 : wc.cell? ⟨gb149, 1, none⟩ = some (.string ((rd_T36 t145 x21_1).f1)) := (blk_cell BK149.out 1).trans rfl
                      have hcz65_2 : wc.cell? ⟨gb149, 2, none⟩ = some (.int .i64 ((rd_T36 t145 x21_1).f2)) := (blk_cell BK149.out 2).trans rfl
                      have hfz65_0 := blk_frozen BK149.out 0
                      have hfz65_1 := blk_frozen BK149.out 1
                      have hfz65_2 := blk_frozen BK149.out 2
                      try go_wp2_with (first | ((with_reducible refine gate_callee (f := 10) rfl ?_); refine goesL_ (some 36) rfl rfl Try.func10 (by kernel_rfl) rfl #[.agg #[.int .i64 ((rd_T36 t145 x21_1).f0), .string ((rd_T36 t145 x21_1).f1), .int .i64 ((rd_T36 t145 x21_1).f2)]] rfl (by (try simp only [List.map_toArray, List.map_cons, List.map_nil]); first | done | rfl | (simp only [List.length_drop, List.length_take]; rfl)) ?_; (with_reducible refine (dnsl_row.calls kj23 ((rd_T36 t145 x21_1).f0) ((rd_T36 t145 x21_1).f1) ((rd_T36 t145 x21_1).f2) t150 t151 t154 t155 t156 _ A39.out).mono ?_); rintro e w66 ⟨v152, rfl, ho0, hb⟩; refine ⟨_, rfl, ?_⟩; have n0_ := Aside0.mk (Kd.S_elder' (by (with_reducible repeat (first | apply Kd.S_alloc | apply Kd.S_drewN | apply Kd.S_drew)); exact HO_6.out) (Kd.R_base ho0) hb); have n1_ := Aside0.mk (Kd.R_elder' (by (with_reducible repeat (first | apply Kd.R_alloc | apply Kd.R_drewN | apply Kd.R_drew)); exact HO_19.out) (Kd.R_base ho0) hb); have n2_ := Aside0.mk (Kd.R_lower (Kd.R_newB (Kd.R_new' ho0 (Kd.R_lt (by (with_reducible repeat (first | apply Kd.R_alloc | apply Kd.R_drewN | apply Kd.R_drew)); exact HO_19.out))) (g := gb149) (o := .cells #[.int .i64 ((rd_T36 t145 x21_1).f0), .string ((rd_T36 t145 x21_1).f1), .int .i64 ((rd_T36 t145 x21_1).f2)] 36 (0, 0)) (by (with_reducible repeat (first | refine blk_drewN ?_ _ | refine blk_drew ?_ | refine blk_alloc ?_ _)); exact BK149.out)) (below_size (by repeat (first | (with_reducible first | exact HB.out | apply below_alloc | apply pw_below_drewN | apply below_drew1 | refine below_set ?_ GE140.out | refine below_set ?_ GE144.out | refine below_set ?_ GE149.out) | exact HB.out)))); have n3_ := Aside0.mk (blk_below (g := gb140) (o := .cells #[.int .i64 x141000_1, .int .i64 x141001_1] 26 (0, 0)) (by (with_reducible repeat (first | refine blk_drewN ?_ _ | refine blk_drew ?_ | refine blk_alloc ?_ _)); exact BK140.out) hb); have n4_ := Aside0.mk (blk_below (g := gb144) (o := .cells #[.int .i64 t141, .int .i64 t142] 26 (0, 0)) (by (with_reducible repeat (first | refine blk_drewN ?_ _ | refine blk_drew ?_ | refine blk_alloc ?_ _)); exact BK144.out) hb); have n5_ := Aside0.mk (blk_below (g := gb149) (o := .cells #[.int .i64 ((rd_T36 t145 x21_1).f0), .string ((rd_T36 t145 x21_1).f1), .int .i64 ((rd_T36 t145 x21_1).f2)] 36 (0, 0)) (by (with_reducible repeat (first | refine blk_drewN ?_ _ | refine blk_drew ?_ | refine blk_alloc ?_ _)); exact BK149.out) hb); have n6_ := Aside0.mk (below_step (by repeat (first | (with_reducible first | exact HB.out | apply below_alloc | apply pw_below_drewN | apply below_drew1 | refine below_set ?_ GE140.out | refine below_set ?_ GE144.out | refine below_set ?_ GE149.out) | exact HB.out)) hb); clear HO_6; clear HO_19; clear BK140; clear BK144; clear BK149; clear HB; have HO_6 := n0_; have HO_19 := n1_; have HO153 := n2_; have BK140 := n3_; have BK144 := n4_; have BK149 := n5_; have HB := n6_; clear n0_ n1_ n2_ n3_ n4_ n5_ n6_; (try clear hb); (try clear hb2); (try clear hk); (try clear hi); (try clear ho0)) | ((with_reducible refine gate_dst (N := 9) rfl ?_); refine box_event ?hg (N := 9) ?hd (cs := #[.string (⟨#[]⟩ : ByteArray), .slice none 0 0, .int .i64 0]) (t := 34) ?hr ?_; (case hd => rfl); (case hg => rfl); (case hr => first | (go_simp; done) | (go_simp; rfl)); intro gb157 hg w67 hbox hb; have n0_ := Aside0.mk (Kd.S_below (Kd.S_elderB (by (with_reducible repeat (first | apply Kd.S_alloc | apply Kd.S_drewN | apply Kd.S_drew)); exact HO_6.out) gb157 (Nat.le_of_eq hg.symm)) hb); have n1_ := Aside0.mk (Kd.R_below (by (with_reducible repeat (first | apply Kd.R_alloc | apply Kd.R_drewN | apply Kd.R_drew)); exact HO_19.out) hb); have n2_ := Aside0.mk (Kd.R_below (by (with_reducible repeat (first | apply Kd.R_alloc | apply Kd.R_drewN | apply Kd.R_drew)); exact HO153.out) hb); have n3_ := Aside0.mk (blk_below (g := gb140) (o := .cells #[.int .i64 x141000_1, .int .i64 x141001_1] 26 (0, 0)) (by (with_reducible repeat (first | refine blk_drewN ?_ _ | refine blk_drew ?_ | refine blk_alloc ?_ _)); exact BK140.out) hb); have n4_ := Aside0.mk (blk_below (g := gb144) (o := .cells #[.int .i64 t141, .int .i64 t142] 26 (0, 0)) (by (with_reducible repeat (first | refine blk_drewN ?_ _ | refine blk_drew ?_ | refine blk_alloc ?_ _)); exact BK144.out) hb); have n5_ := Aside0.mk (blk_below (g := gb149) (o := .cells #[.int .i64 ((rd_T36 t145 x21_1).f0), .string ((rd_T36 t145 x21_1).f1), .int .i64 ((rd_T36 t145 x21_1).f2)] 36 (0, 0)) (by (with_reducible repeat (first | refine blk_drewN ?_ _ | refine blk_drew ?_ | refine blk_alloc ?_ _)); exact BK149.out) hb); have n6_ := Aside0.mk (below_step (by repeat (first | (with_reducible first | exact HB.out | apply below_alloc | apply pw_below_drewN | apply below_drew1 | refine below_set ?_ GE140.out | refine below_set ?_ GE144.out | refine below_set ?_ GE149.out) | exact HB.out)) hb); have n7_ := Aside0.mk (hbox); have n8_ := Aside0.mk ((by rw [hg]; exact (below_size (by repeat (first | (with_reducible first | exact HB.out | apply below_alloc | apply pw_below_drewN | apply below_drew1 | refine below_set ?_ GE140.out | refine below_set ?_ GE144.out | refine below_set ?_ GE149.out) | exact HB.out))) : w.heap.size ≤ gb157)); have n9_ := Aside0.mk ((by rw [hg]; exact (below_size (by repeat (first | (with_reducible first | exact HB.out | apply below_alloc | apply pw_below_drewN | apply below_drew1 | refine below_set ?_ GE140.out | refine below_set ?_ GE144.out | refine below_set ?_ GE149.out) | exact HB.out))) : w.heap.size ≤ gb157)); have n10_ := Aside0.mk ((by rw [hg]; exact Nat.ne_of_lt (blk_lt (g := gb140) (o := .cells #[.int .i64 x141000_1, .int .i64 x141001_1] 26 (0, 0)) (by (with_reducible repeat (first | refine blk_drewN ?_ _ | refine blk_drew ?_ | refine blk_alloc ?_ _)); exact BK140.out)) : gb140 ≠ gb157)); have n11_ := Aside0.mk ((by rw [hg]; exact Nat.ne_of_gt (blk_lt (g := gb140) (o := .cells #[.int .i64 x141000_1, .int .i64 x141001_1] 26 (0, 0)) (by (with_reducible repeat (first | refine blk_drewN ?_ _ | refine blk_drew ?_ | refine blk_alloc ?_ _)); exact BK140.out)) : gb157 ≠ gb140)); have n12_ := Aside0.mk ((by rw [hg]; exact Nat.ne_of_lt (blk_lt (g := gb144) (o := .cells #[.int .i64 t141, .int .i64 t142] 26 (0, 0)) (by (with_reducible repeat (first | refine blk_drewN ?_ _ | refine blk_drew ?_ | refine blk_alloc ?_ _)); exact BK144.out)) : gb144 ≠ gb157)); have n13_ := Aside0.mk ((by rw [hg]; exact Nat.ne_of_gt (blk_lt (g := gb144) (o := .cells #[.int .i64 t141, .int .i64 t142] 26 (0, 0)) (by (with_reducible repeat (first | refine blk_drewN ?_ _ | refine blk_drew ?_ | refine blk_alloc ?_ _)); exact BK144.out)) : gb157 ≠ gb144)); have n14_ := Aside0.mk ((by rw [hg]; exact Nat.ne_of_lt (blk_lt (g := gb149) (o := .cells #[.int .i64 ((rd_T36 t145 x21_1).f0), .string ((rd_T36 t145 x21_1).f1), .int .i64 ((rd_T36 t145 x21_1).f2)] 36 (0, 0)) (by (with_reducible repeat (first | refine blk_drewN ?_ _ | refine blk_drew ?_ | refine blk_alloc ?_ _)); exact BK149.out)) : gb149 ≠ gb157)); have n15_ := Aside0.mk ((by rw [hg]; exact Nat.ne_of_gt (blk_lt (g := gb149) (o := .cells #[.int .i64 ((rd_T36 t145 x21_1).f0), .string ((rd_T36 t145 x21_1).f1), .int .i64 ((rd_T36 t145 x21_1).f2)] 36 (0, 0)) (by (with_reducible repeat (first | refine blk_drewN ?_ _ | refine blk_drew ?_ | refine blk_alloc ?_ _)); exact BK149.out)) : gb157 ≠ gb149)); clear HO_6; clear HO_19; clear HO153; clear BK140; clear BK144; clear BK149; clear HB; have HO_6 := n0_; have HO_19 := n1_; have HO153 := n2_; have BK140 := n3_; have BK144 := n4_; have BK149 := n5_; have HB := n6_; have BK157 := n7_; have GW157 := n8_; have GE157 := n9_; have NB140_157 := n10_; have NB157_140 := n11_; have NB144_157 := n12_; have NB157_144 := n13_; have NB149_157 := n14_; have NB157_149 := n15_; clear n0_ n1_ n2_ n3_ n4_ n5_ n6_ n7_ n8_ n9_ n10_ n11_ n12_ n13_ n14_ n15_; clear hb hbox hg) | ((with_reducible refine gate_dst (N := 10) rfl ?_); refine box_event ?hg (N := 10) ?hd (cs := #[.int .i64 0, .int .i64 0]) (t := 26) ?hr ?_; (case hd => rfl); (case hg => rfl); (case hr => first | (go_simp; done) | (go_simp; rfl)); intro gb158 hg w68 hbox hb; have n0_ := Aside0.mk (Kd.S_below (by (with_reducible repeat (first | apply Kd.S_alloc | apply Kd.S_drewN | apply Kd.S_drew)); exact HO_6.out) hb); have n1_ := Aside0.mk (Kd.R_below (by (with_reducible repeat (first | apply Kd.R_alloc | apply Kd.R_drewN | apply Kd.R_drew)); exact HO_19.out) hb); have n2_ := Aside0.mk (Kd.R_below (by (with_reducible repeat (first | apply Kd.R_alloc | apply Kd.R_drewN | apply Kd.R_drew)); exact HO153.out) hb); have n3_ := Aside0.mk (blk_below (g := gb140) (o := .cells #[.int .i64 x141000_1, .int .i64 x141001_1] 26 (0, 0)) (by (with_reducible repeat (first | refine blk_drewN ?_ _ | refine blk_drew ?_ | refine blk_alloc ?_ _)); exact BK140.out) hb); have n4_ := Aside0.mk (blk_below (g := gb144) (o := .cells #[.int .i64 t141, .int .i64 t142] 26 (0, 0)) (by (with_reducible repeat (first | refine blk_drewN ?_ _ | refine blk_drew ?_ | refine blk_alloc ?_ _)); exact BK144.out) hb); have n5_ := Aside0.mk (blk_below (g := gb149) (o := .cells #[.int .i64 ((rd_T36 t145 x21_1).f0), .string ((rd_T36 t145 x21_1).f1), .int .i64 ((rd_T36 t145 x21_1).f2)] 36 (0, 0)) (by (with_reducible repeat (first | refine blk_drewN ?_ _ | refine blk_drew ?_ | refine blk_alloc ?_ _)); exact BK149.out) hb); have n6_ := Aside0.mk (blk_below (g := gb157) (o := .cells #[.string (⟨#[]⟩ : ByteArray), .slice none 0 0, .int .i64 0] 34 (0, 0)) (by (with_reducible repeat (first | refine blk_drewN ?_ _ | refine blk_drew ?_ | refine blk_alloc ?_ _)); exact BK157.out) hb); have n7_ := Aside0.mk (below_step (by repeat (first | (with_reducible first | exact HB.out | apply below_alloc | apply pw_below_drewN | apply below_drew1 | refine below_set ?_ GE140.out | refine below_set ?_ GE144.out | refine below_set ?_ GE149.out | refine below_set ?_ GE157.out) | exact HB.out)) hb); have n8_ := Aside0.mk (hbox); have n9_ := Aside0.mk ((by rw [hg]; exact (below_size (by repeat (first | (with_reducible first | exact HB.out | apply below_alloc | apply pw_below_drewN | apply below_drew1 | refine below_set ?_ GE140.out | refine below_set ?_ GE144.out | refine below_set ?_ GE149.out | refine below_set ?_ GE157.out) | exact HB.out))) : w.heap.size ≤ gb158)); have n10_ := Aside0.mk ((by rw [hg]; exact (below_size (by repeat (first | (with_reducible first | exact HB.out | apply below_alloc | apply pw_below_drewN | apply below_drew1 | refine below_set ?_ GE140.out | refine below_set ?_ GE144.out | refine below_set ?_ GE149.out | refine below_set ?_ GE157.out) | exact HB.out))) : w.heap.size ≤ gb158)); have n11_ := Aside0.mk ((by rw [hg]; exact Nat.ne_of_lt (blk_lt (g := gb140) (o := .cells #[.int .i64 x141000_1, .int .i64 x141001_1] 26 (0, 0)) (by (with_reducible repeat (first | refine blk_drewN ?_ _ | refine blk_drew ?_ | refine blk_alloc ?_ _)); exact BK140.out)) : gb140 ≠ gb158)); have n12_ := Aside0.mk ((by rw [hg]; exact Nat.ne_of_gt (blk_lt (g := gb140) (o := .cells #[.int .i64 x141000_1, .int .i64 x141001_1] 26 (0, 0)) (by (with_reducible repeat (first | refine blk_drewN ?_ _ | refine blk_drew ?_ | refine blk_alloc ?_ _)); exact BK140.out)) : gb158 ≠ gb140)); have n13_ := Aside0.mk ((by rw [hg]; exact Nat.ne_of_lt (blk_lt (g := gb144) (o := .cells #[.int .i64 t141, .int .i64 t142] 26 (0, 0)) (by (with_reducible repeat (first | refine blk_drewN ?_ _ | refine blk_drew ?_ | refine blk_alloc ?_ _)); exact BK144.out)) : gb144 ≠ gb158)); have n14_ := Aside0.mk ((by rw [hg]; exact Nat.ne_of_gt (blk_lt (g := gb144) (o := .cells #[.int .i64 t141, .int .i64 t142] 26 (0, 0)) (by (with_reducible repeat (first | refine blk_drewN ?_ _ | refine blk_drew ?_ | refine blk_alloc ?_ _)); exact BK144.out)) : gb158 ≠ gb144)); have n15_ := Aside0.mk ((by rw [hg]; exact Nat.ne_of_lt (blk_lt (g := gb149) (o := .cells #[.int .i64 ((rd_T36 t145 x21_1).f0), .string ((rd_T36 t145 x21_1).f1), .int .i64 ((rd_T36 t145 x21_1).f2)] 36 (0, 0)) (by (with_reducible repeat (first | refine blk_drewN ?_ _ | refine blk_drew ?_ | refine blk_alloc ?_ _)); exact BK149.out)) : gb149 ≠ gb158)); have n16_ := Aside0.mk ((by rw [hg]; exact Nat.ne_of_gt (blk_lt (g := gb149) (o := .cells #[.int .i64 ((rd_T36 t145 x21_1).f0), .string ((rd_T36 t145 x21_1).f1), .int .i64 ((rd_T36 t145 x21_1).f2)] 36 (0, 0)) (by (with_reducible repeat (first | refine blk_drewN ?_ _ | refine blk_drew ?_ | refine blk_alloc ?_ _)); exact BK149.out)) : gb158 ≠ gb149)); have n17_ := Aside0.mk ((by rw [hg]; exact Nat.ne_of_lt (blk_lt (g := gb157) (o := .cells #[.string (⟨#[]⟩ : ByteArray), .slice none 0 0, .int .i64 0] 34 (0, 0)) (by (with_reducible repeat (first | refine blk_drewN ?_ _ | refine blk_drew ?_ | refine blk_alloc ?_ _)); exact BK157.out)) : gb157 ≠ gb158)); have n18_ := Aside0.mk ((by rw [hg]; exact Nat.ne_of_gt (blk_lt (g := gb157) (o := .cells #[.string (⟨#[]⟩ : ByteArray), .slice none 0 0, .int .i64 0] 34 (0, 0)) (by (with_reducible repeat (first | refine blk_drewN ?_ _ | refine blk_drew ?_ | refine blk_alloc ?_ _)); exact BK157.out)) : gb158 ≠ gb157)); clear HO_6; clear HO_19; clear HO153; clear BK140; clear BK144; clear BK149; clear BK157; clear HB; have HO_6 := n0_; have HO_19 := n1_; have HO153 := n2_; have BK140 := n3_; have BK144 := n4_; have BK149 := n5_; have BK157 := n6_; have HB := n7_; have BK158 := n8_; have GW158 := n9_; have GE158 := n10_; have NB140_158 := n11_; have NB158_140 := n12_; have NB144_158 := n13_; have NB158_144 := n14_; have NB149_158 := n15_; have NB158_149 := n16_; have NB157_158 := n17_; have NB158_157 := n18_; clear n0_ n1_ n2_ n3_ n4_ n5_ n6_ n7_ n8_ n9_ n10_ n11_ n12_ n13_ n14_ n15_ n16_ n17_ n18_; clear hb hbox hg; have hnb69 := NB157_140.out; have hnc69 := NB140_157.out; have hnb70 := NB157_144.out; have hnc70 := NB144_157.out; have hnb71 := NB157_149.out; have hnc71 := NB149_157.out; have hnb72 := NB157_158.out; have hnc72 := NB158_157.out; have hcz73_0 : w68.cell? ⟨gb157, 0, none⟩ = some (.string (⟨#[]⟩ : ByteArray)) := (blk_cell BK157.out 0).trans rfl; have hcz73_1 : w68.cell? ⟨gb157, 1, none⟩ = some (.slice none 0 0) := (blk_cell BK157.out 1).trans rfl; have hcz73_2 : w68.cell? ⟨gb157, 2, none⟩ = some (.int .i64 0) := (blk_cell BK157.out 2).trans rfl; have hfz73_0 := blk_frozen BK157.out 0; have hfz73_1 := blk_frozen BK157.out 1; have hfz73_2 := blk_frozen BK157.out 2; obtain ⟨Ao74, co74, eo74⟩ := Kd.R_slice HO153.out; subst eo74; have hnb75 := NB158_140.out; have hnc75 := NB140_158.out; have hnb76 := NB158_144.out; have hnc76 := NB144_158.out; have hnb77 := NB158_149.out; have hnc77 := NB149_158.out; have hcz78_0 : w68.cell? ⟨gb158, 0, none⟩ = some (.int .i64 0) := (blk_cell BK158.out 0).trans rfl; have hcz78_1 : w68.cell? ⟨gb158, 1, none⟩ = some (.int .i64 0) := (blk_cell BK158.out 1).trans rfl; have hfz78_0 := blk_frozen BK158.out 0; have hfz78_1 := blk_frozen BK158.out 1))
                      have n0_ : Aside0 (Kd.S k34 34 (((((w68.setCell ⟨gb157, 0, none⟩ (.string t150)).setCell ⟨gb157, 1, none⟩ (.slice Ao74 t151.length co74)).setCell ⟨gb157, 2, none⟩ (.int .i64 t154)).setCell ⟨gb158, 0, none⟩ (.int .i64 t155)).setCell ⟨gb158, 1, none⟩ (.int .i64 t156)) w.heap.size (fun k_ => some k_ ≠ (.slice (some ad148) t145.length co20 : Value).ownBlock ∧ some k_ ≠ (.slice Ao74 t151.length co74 : Value).ownBlock ∧ k_ ≠ gb149 ∧ k_ ≠ gb157) u6 x6_1) := ⟨by (with_reducible repeat (first | apply Kd.S_alloc | apply Kd.S_drewN | apply Kd.S_drew)); exact Kd.S_mono (Kd.S_far (p := ⟨gb158, 1, none⟩) (Kd.S_far (p := ⟨gb158, 0, none⟩) (Kd.S_far (p := ⟨gb157, 2, none⟩) (Kd.S_far (p := ⟨gb157, 1, none⟩) (Kd.S_far (p := ⟨gb157, 0, none⟩) (Kd.S_types (Kd.S_mono HO_6.out (fun k_ hk => (⟨hk, hk.2⟩ : _ ∧ k_ ≠ gb157))) BK158.out (by decide)) (fun _ hk => hk.1.2) (.string t150)) (fun _ hk => hk.1.2) (.slice Ao74 t151.length co74)) (fun _ hk => hk.1.2) (.int .i64 t154)) (fun _ hk => hk.2) (.int .i64 t155)) (fun _ hk => hk.2) (.int .i64 t156)) (fun _ hk => ⟨hk.1.1.1.1.1, ⟨hk.1.1.1.2, ⟨hk.1.1.1.1.2, hk.1.1.2⟩⟩⟩)⟩
                      have n1_ : Aside0 (Kd.R k36 36 (((((w68.setCell ⟨gb157, 0, none⟩ (.string t150)).setCell ⟨gb157, 1, none⟩ (.slice Ao74 t151.length co74)).setCell ⟨gb157, 2, none⟩ (.int .i64 t154)).setCell ⟨gb158, 0, none⟩ (.int .i64 t155)).setCell ⟨gb158, 1, none⟩ (.int .i64 t156)) w.heap.size (fun k_ => some k_ ≠ (.slice Ao74 t151.length co74 : Value).ownBlock ∧ k_ ≠ gb149) (.slice (some ad148) t145.length co20) t145) := ⟨by (with_reducible repeat (first | apply Kd.R_alloc | apply Kd.R_drewN | apply Kd.R_drew)); exact Kd.R_mono (Kd.R_far (p := ⟨gb158, 1, none⟩) (Kd.R_far (p := ⟨gb158, 0, none⟩) (Kd.R_far (p := ⟨gb157, 2, none⟩) (Kd.R_far (p := ⟨gb157, 1, none⟩) (Kd.R_far (p := ⟨gb157, 0, none⟩) (Kd.R_types (Kd.R_types HO_19.out BK157.out (by decide)) BK158.out (by decide)) (fun _ hk => hk.1.2) (.string t150)) (fun _ hk => hk.1.2) (.slice Ao74 t151.length co74)) (fun _ hk => hk.1.2) (.int .i64 t154)) (fun _ hk => hk.2) (.int .i64 t155)) (fun _ hk => hk.2) (.int .i64 t156)) (fun _ hk => ⟨hk.1.1.2, hk.1.1.1⟩)⟩
                      have n2_ : Aside0 (Kd.R k36 36 (((((w68.setCell ⟨gb157, 0, none⟩ (.string t150)).setCell ⟨gb157, 1, none⟩ (.slice Ao74 t151.length co74)).setCell ⟨gb157, 2, none⟩ (.int .i64 t154)).setCell ⟨gb158, 0, none⟩ (.int .i64 t155)).setCell ⟨gb158, 1, none⟩ (.int .i64 t156)) w.heap.size (fun k_ => some k_ ≠ (.slice (some ad148) t145.length co20 : Value).ownBlock ∧ k_ ≠ gb149) (.slice Ao74 t151.length co74) t151) := ⟨by (with_reducible repeat (first | apply Kd.R_alloc | apply Kd.R_drewN | apply Kd.R_drew)); exact Kd.R_mono (Kd.R_far (p := ⟨gb158, 1, none⟩) (Kd.R_far (p := ⟨gb158, 0, none⟩) (Kd.R_far (p := ⟨gb157, 2, none⟩) (Kd.R_far (p := ⟨gb157, 1, none⟩) (Kd.R_far (p := ⟨gb157, 0, none⟩) (Kd.R_types (Kd.R_types HO153.out BK157.out (by decide)) BK158.out (by decide)) (fun _ hk => hk.1.2) (.string t150)) (fun _ hk => hk.1.2) (.slice Ao74 t151.length co74)) (fun _ hk => hk.1.2) (.int .i64 t154)) (fun _ hk => hk.2) (.int .i64 t155)) (fun _ hk => hk.2) (.int .i64 t156)) (fun _ hk => ⟨hk.1.1.1.2, hk.1.1.2⟩)⟩
                      have n3_ : Aside0 ((((((w68.setCell ⟨gb157, 0, none⟩ (.string t150)).setCell ⟨gb157, 1, none⟩ (.slice Ao74 t151.length co74)).setCell ⟨gb157, 2, none⟩ (.int .i64 t154)).setCell ⟨gb158, 0, none⟩ (.int .i64 t155)).setCell ⟨gb158, 1, none⟩ (.int .i64 t156)).heap[gb140]? = some (.cells #[.int .i64 x141000_1, .int .i64 x141001_1] 26 (0, 0))) := ⟨by (with_reducible repeat (first | refine blk_drewN ?_ _ | refine blk_drew ?_ | refine blk_alloc ?_ _)); refine blk_far ?_ NB140_158.out _; (with_reducible repeat (first | refine blk_drewN ?_ _ | refine blk_drew ?_ | refine blk_alloc ?_ _)); refine blk_far ?_ NB140_158.out _; (with_reducible repeat (first | refine blk_drewN ?_ _ | refine blk_drew ?_ | refine blk_alloc ?_ _)); refine blk_far ?_ NB140_157.out _; (with_reducible repeat (first | refine blk_drewN ?_ _ | refine blk_drew ?_ | refine blk_alloc ?_ _)); refine blk_far ?_ NB140_157.out _; (with_reducible repeat (first | refine blk_drewN ?_ _ | refine blk_drew ?_ | refine blk_alloc ?_ _)); refine blk_far ?_ NB140_157.out _; (with_reducible repeat (first | refine blk_drewN ?_ _ | refine blk_drew ?_ | refine blk_alloc ?_ _)); exact BK140.out⟩
                      have n4_ : Aside0 ((((((w68.setCell ⟨gb157, 0, none⟩ (.string t150)).setCell ⟨gb157, 1, none⟩ (.slice Ao74 t151.length co74)).setCell ⟨gb157, 2, none⟩ (.int .i64 t154)).setCell ⟨gb158, 0, none⟩ (.int .i64 t155)).setCell ⟨gb158, 1, none⟩ (.int .i64 t156)).heap[gb144]? = some (.cells #[.int .i64 t141, .int .i64 t142] 26 (0, 0))) := ⟨by (with_reducible repeat (first | refine blk_drewN ?_ _ | refine blk_drew ?_ | refine blk_alloc ?_ _)); refine blk_far ?_ NB144_158.out _; (with_reducible repeat (first | refine blk_drewN ?_ _ | refine blk_drew ?_ | refine blk_alloc ?_ _)); refine blk_far ?_ NB144_158.out _; (with_reducible repeat (first | refine blk_drewN ?_ _ | refine blk_drew ?_ | refine blk_alloc ?_ _)); refine blk_far ?_ NB144_157.out _; (with_reducible repeat (first | refine blk_drewN ?_ _ | refine blk_drew ?_ | refine blk_alloc ?_ _)); refine blk_far ?_ NB144_157.out _; (with_reducible repeat (first | refine blk_drewN ?_ _ | refine blk_drew ?_ | refine blk_alloc ?_ _)); refine blk_far ?_ NB144_157.out _; (with_reducible repeat (first | refine blk_drewN ?_ _ | refine blk_drew ?_ | refine blk_alloc ?_ _)); exact BK144.out⟩
                      have n5_ : Aside0 ((((((w68.setCell ⟨gb157, 0, none⟩ (.string t150)).setCell ⟨gb157, 1, none⟩ (.slice Ao74 t151.length co74)).setCell ⟨gb157, 2, none⟩ (.int .i64 t154)).setCell ⟨gb158, 0, none⟩ (.int .i64 t155)).setCell ⟨gb158, 1, none⟩ (.int .i64 t156)).heap[gb149]? = some (.cells #[.int .i64 ((rd_T36 t145 x21_1).f0), .string ((rd_T36 t145 x21_1).f1), .int .i64 ((rd_T36 t145 x21_1).f2)] 36 (0, 0))) := ⟨by (with_reducible repeat (first | refine blk_drewN ?_ _ | refine blk_drew ?_ | refine blk_alloc ?_ _)); refine blk_far ?_ NB149_158.out _; (with_reducible repeat (first | refine blk_drewN ?_ _ | refine blk_drew ?_ | refine blk_alloc ?_ _)); refine blk_far ?_ NB149_158.out _; (with_reducible repeat (first | refine blk_drewN ?_ _ | refine blk_drew ?_ | refine blk_alloc ?_ _)); refine blk_far ?_ NB149_157.out _; (with_reducible repeat (first | refine blk_drewN ?_ _ | refine blk_drew ?_ | refine blk_alloc ?_ _)); refine blk_far ?_ NB149_157.out _; (with_reducible repeat (first | refine blk_drewN ?_ _ | refine blk_drew ?_ | refine blk_alloc ?_ _)); refine blk_far ?_ NB149_157.out _; (with_reducible repeat (first | refine blk_drewN ?_ _ | refine blk_drew ?_ | refine blk_alloc ?_ _)); exact BK149.out⟩
                      have n6_ : Aside0 ((((((w68.setCell ⟨gb157, 0, none⟩ (.string t150)).setCell ⟨gb157, 1, none⟩ (.slice Ao74 t151.length co74)).setCell ⟨gb157, 2, none⟩ (.int .i64 t154)).setCell ⟨gb158, 0, none⟩ (.int .i64 t155)).setCell ⟨gb158, 1, none⟩ (.int .i64 t156)).heap[gb157]? = some (.cells #[.string t150, .slice Ao74 t151.length co74, .int .i64 t154] 34 (0, 0))) := ⟨by (with_reducible repeat (first | refine blk_drewN ?_ _ | refine blk_drew ?_ | refine blk_alloc ?_ _)); refine blk_far ?_ NB157_158.out _; (with_reducible repeat (first | refine blk_drewN ?_ _ | refine blk_drew ?_ | refine blk_alloc ?_ _)); refine blk_far ?_ NB157_158.out _; (with_reducible repeat (first | refine blk_drewN ?_ _ | refine blk_drew ?_ | refine blk_alloc ?_ _)); refine blk_put (cs := #[.string t150, .slice Ao74 t151.length co74, .int .i64 0]) ?_ 2 _ rfl; (with_reducible repeat (first | refine blk_drewN ?_ _ | refine blk_drew ?_ | refine blk_alloc ?_ _)); refine blk_put (cs := #[.string t150, .slice none 0 0, .int .i64 0]) ?_ 1 _ rfl; (with_reducible repeat (first | refine blk_drewN ?_ _ | refine blk_drew ?_ | refine blk_alloc ?_ _)); refine blk_put (cs := #[.string (⟨#[]⟩ : ByteArray), .slice none 0 0, .int .i64 0]) ?_ 0 _ rfl; (with_reducible repeat (first | refine blk_drewN ?_ _ | refine blk_drew ?_ | refine blk_alloc ?_ _)); exact BK157.out⟩
                      have n7_ : Aside0 ((((((w68.setCell ⟨gb157, 0, none⟩ (.string t150)).setCell ⟨gb157, 1, none⟩ (.slice Ao74 t151.length co74)).setCell ⟨gb157, 2, none⟩ (.int .i64 t154)).setCell ⟨gb158, 0, none⟩ (.int .i64 t155)).setCell ⟨gb158, 1, none⟩ (.int .i64 t156)).heap[gb158]? = some (.cells #[.int .i64 t155, .int .i64 t156] 26 (0, 0))) := ⟨by (with_reducible repeat (first | refine blk_drewN ?_ _ | refine blk_drew ?_ | refine blk_alloc ?_ _)); refine blk_put (cs := #[.int .i64 t155, .int .i64 0]) ?_ 1 _ rfl; (with_reducible repeat (first | refine blk_drewN ?_ _ | refine blk_drew ?_ | refine blk_alloc ?_ _)); refine blk_put (cs := #[.int .i64 0, .int .i64 0]) ?_ 0 _ rfl; (with_reducible repeat (first | refine blk_drewN ?_ _ | refine blk_drew ?_ | refine blk_alloc ?_ _)); refine blk_far ?_ NB158_157.out _; (with_reducible repeat (first | refine blk_drewN ?_ _ | refine blk_drew ?_ | refine blk_alloc ?_ _)); refine blk_far ?_ NB158_157.out _; (with_reducible repeat (first | refine blk_drewN ?_ _ | refine blk_drew ?_ | refine blk_alloc ?_ _)); refine blk_far ?_ NB158_157.out _; (with_reducible repeat (first | refine blk_drewN ?_ _ | refine blk_drew ?_ | refine blk_alloc ?_ _)); exact BK158.out⟩
                      have n8_ : Aside0 (Below w.heap.size w (((((w68.setCell ⟨gb157, 0, none⟩ (.string t150)).setCell ⟨gb157, 1, none⟩ (.slice Ao74 t151.length co74)).setCell ⟨gb157, 2, none⟩ (.int .i64 t154)).setCell ⟨gb158, 0, none⟩ (.int .i64 t155)).setCell ⟨gb158, 1, none⟩ (.int .i64 t156))) := ⟨by repeat (first | (with_reducible first | exact HB.out | apply below_alloc | apply pw_below_drewN | apply below_drew1 | refine below_set ?_ GE140.out | refine below_set ?_ GE144.out | refine below_set ?_ GE149.out | refine below_set ?_ GE157.out | refine below_set ?_ GE158.out) | exact HB.out)⟩
                      (try clear HO_6)
                      (try clear HO_19)
                      (try clear HO153)
                      (try clear BK140)
                      (try clear BK144)
                      (try clear BK149)
                      (try clear BK157)
                      (try clear BK158)
                      (try clear HB)
                      generalize (((((w68.setCell ⟨gb157, 0, none⟩ (.string t150)).setCell ⟨gb157, 1, none⟩ (.slice Ao74 t151.length co74)).setCell ⟨gb157, 2, none⟩ (.int .i64 t154)).setCell ⟨gb158, 0, none⟩ (.int .i64 t155)).setCell ⟨gb158, 1, none⟩ (.int .i64 t156)) = w79 at n0_ n1_ n2_ n3_ n4_ n5_ n6_ n7_ n8_ ⊢
                      have HO_6 := n0_
                      have HO_19 := n1_
                      have HO153 := n2_
                      have BK140 := n3_
                      have BK144 := n4_
                      have BK149 := n5_
                      have BK157 := n6_
                      have BK158 := n7_
                      have HB := n8_
                      clear n0_ n1_ n2_ n3_ n4_ n5_ n6_ n7_ n8_
                      have n0_ := Aside0.mk (Kd.S_drew HO_6.out)
                      have n1_ := Aside0.mk (Kd.R_drew HO_19.out)
                      have n2_ := Aside0.mk (Kd.R_drew HO153.out)
                      have n3_ := Aside0.mk (blk_drew BK140.out)
                      have n4_ := Aside0.mk (blk_drew BK144.out)
                      have n5_ := Aside0.mk (blk_drew BK149.out)
                      have n6_ := Aside0.mk (blk_drew BK157.out)
                      have n7_ := Aside0.mk (blk_drew BK158.out)
                      have n8_ := Aside0.mk (below_drew1 HB.out)
                      clear HO_6
                      clear HO_19
                      clear HO153
                      clear BK140
                      clear BK144
                      clear BK149
                      clear BK157
                      clear BK158
                      clear HB
                      have HO_6 := n0_
                      have HO_19 := n1_
                      have HO153 := n2_
                      have BK140 := n3_
                      have BK144 := n4_
                      have BK149 := n5_
                      have BK157 := n6_
                      have BK158 := n7_
                      have HB := n8_
                      clear n0_ n1_ n2_ n3_ n4_ n5_ n6_ n7_ n8_
                      refine start_ (n := 3) (S := fun w' => w'.cell? ⟨gb158, 0, none⟩ = some (.int .i64 t155) ∧ w'.cell? ⟨gb158, 1, none⟩ = some (.int .i64 t156)) (ds := []) #[false, false, false] (by kernel_rfl) rfl rfl ⟨(blk_cell BK158.out 0).trans rfl, (blk_cell BK158.out 1).trans rfl⟩ (fun hHeld => ?_)
                      generalize w79.drew = w80 at HO_6 HO_19 HO153 BK140 BK144 BK149 BK157 BK158 HB hHeld ⊢
                      refine pure_ (i := 1) (N := some 2) (v := ?_) (a' := ?_) #[false, true, false] rfl rfl (by kernel_rfl) (fun _ _ _ h => h) (Or.inl ⟨by rfl, ?_⟩) ?_ ?_
                      rotate_left
                      · intro w'
                        go_simp
                        with_reducible rfl
                      rotate_left
                      · simp only [Act.put, List.setIfInBounds_toArray, List.set_cons_zero, List.set_cons_succ, i64_w, i32_w]
                        rfl
                      refine take_ (i := 0) (N := some 42) (v := ?_) (a' := ?_) #[true, true, false] rfl rfl (by kernel_rfl) (fun _ _ _ h => h) (Or.inl ⟨by rfl, ?_⟩) hHeld ?_ ?_
                      rotate_left
                      · rintro w' ⟨s0, s1⟩
                        go_simp
                        with_reducible rfl
                      rotate_left
                      · simp only [Act.put, List.setIfInBounds_toArray, List.set_cons_zero, List.set_cons_succ, i64_w, i32_w]
                        rfl
                      refine one_ (i := 2) (N := none) #[true, true, true] rfl rfl (by kernel_rfl) (by decide) (fun K hK => ?_)
                      have hs81 : w80.cell? ⟨gb140, 0, none⟩ = some (.int .i64 x141000_1) := (blk_cell BK140.out 0).trans rfl
                      have hfs81 := blk_frozen BK140.out 0
                      have hns81_1 := NB144_140.out
                      have hns81_2 := NB149_140.out
                      have hns81_3 := NB157_140.out
                      have hns81_4 := NB158_140.out
                      have hms81_1 := NB140_144.out
                      have hms81_2 := NB140_149.out
                      have hms81_3 := NB140_157.out
                      have hms81_4 := NB140_158.out
                      have hs82 : w80.cell? ⟨gb140, 1, none⟩ = some (.int .i64 x141001_1) := (blk_cell BK140.out 1).trans rfl
                      have hfs82 := blk_frozen BK140.out 1
                      have hns82_1 := NB144_140.out
                      have hns82_2 := NB149_140.out
                      have hns82_3 := NB157_140.out
                      have hns82_4 := NB158_140.out
                      have hms82_1 := NB140_144.out
                      have hms82_2 := NB140_149.out
                      have hms82_3 := NB140_157.out
                      have hms82_4 := NB140_158.out
                      refine skip_ (w1 := ?_) (by rfl) rfl ?_ ?_
                      rotate_left
                      · go_simp
                        rfl
                      refine hK.out _ _ ⟨((cell_far (p := ⟨gb140, _, none⟩) NB158_140.out _).trans (((cell_far (p := ⟨gb140, _, none⟩) NB158_140.out _).trans (hHeld.1)))), ((cell_far (p := ⟨gb140, _, none⟩) NB158_140.out _).trans (((cell_far (p := ⟨gb140, _, none⟩) NB158_140.out _).trans (hHeld.2))))⟩ (fun hHeld => ?_)
                      clear hK K
                      refine done_ (by kernel_rfl) ?_
                      try go_wp2
                      refine bodyPost_ret (results_tc rfl _ _ gb140 26 #[.int .i64 t155, .int .i64 t156] (0, 0) _ rfl (by (with_reducible repeat (first | refine blk_drewN ?_ _ | refine blk_drew ?_ | refine blk_alloc ?_ _)); refine blk_put (cs := #[.int .i64 t155, .int .i64 x141001_1]) ?_ 1 _ rfl; (with_reducible repeat (first | refine blk_drewN ?_ _ | refine blk_drew ?_ | refine blk_alloc ?_ _)); refine blk_put (cs := #[.int .i64 x141000_1, .int .i64 x141001_1]) ?_ 0 _ rfl; (with_reducible repeat (first | refine blk_drewN ?_ _ | refine blk_drew ?_ | refine blk_alloc ?_ _)); exact BK140.out) Try.underlying26 rfl (by kernel_rfl)) rfl ?_
                      exact ⟨_, by first | rfl | (simp [errW_none, errW_some] <;> rfl) | (simp [*, errW_none, errW_some] <;> rfl), by first | exact Kd.S_nil _ _ _ _ _ | exact Kd.N_nil _ _ _ _ _ | exact Kd.V_nil _ _ _ _ _ | exact Kd.Q_nil _ _ _ _ _ | exact Kd.R_nil _ _ _ _ _, by repeat (first | (with_reducible first | exact HB.out | apply below_alloc | apply pw_below_drewN | apply below_drew1 | refine below_set ?_ GE140.out | refine below_set ?_ GE144.out | refine below_set ?_ GE149.out | refine below_set ?_ GE157.out | refine below_set ?_ GE158.out) | exact HB.out)⟩
            · rw [if_neg c23] at H
              exact absurd H (by simp)
          · rw [if_neg c22] at H
            exact absurd H (by simp)
        · rw [if_neg c21] at H
          have c21b0 : decide (x21_1 < (t145.length : Int)) = false := decide_eq_false c21
          clear c21
          simp only [Option.some.injEq, Prod.mk.injEq] at H
          obtain ⟨rfl, rfl, rfl⟩ := H
          have hnb83 := NB140_144.out
          have hnc83 := NB144_140.out
          have hcz84_0 : wr.cell? ⟨gb140, 0, none⟩ = some (.int .i64 x141000_1) := (blk_cell BK140.out 0).trans rfl
          have hcz84_1 : wr.cell? ⟨gb140, 1, none⟩ = some (.int .i64 x141001_1) := (blk_cell BK140.out 1).trans rfl
          have hfz84_0 := blk_frozen BK140.out 0
          have hfz84_1 := blk_frozen BK140.out 1
          go_wp2
          refine bodyPost_ret (results_tc rfl _ _ gb140 26 #[.int .i64 0, .int .i64 0] (0, 0) _ rfl (by (with_reducible repeat (first | refine blk_drewN ?_ _ | refine blk_drew ?_ | refine blk_alloc ?_ _)); refine blk_put (cs := #[.int .i64 0, .int .i64 x141001_1]) ?_ 1 _ rfl; (with_reducible repeat (first | refine blk_drewN ?_ _ | refine blk_drew ?_ | refine blk_alloc ?_ _)); refine blk_put (cs := #[.int .i64 x141000_1, .int .i64 x141001_1]) ?_ 0 _ rfl; (with_reducible repeat (first | refine blk_drewN ?_ _ | refine blk_drew ?_ | refine blk_alloc ?_ _)); exact BK140.out) Try.underlying26 rfl (by kernel_rfl)) rfl ?_
          exact ⟨_, by first | rfl | (simp [errW_none, errW_some] <;> rfl) | (simp [*, errW_none, errW_some] <;> rfl), by (with_reducible repeat (first | apply Kd.S_alloc | apply Kd.S_drewN | apply Kd.S_drew)); exact Kd.S_mono (Kd.S_far (p := ⟨gb140, 1, none⟩) (Kd.S_far (p := ⟨gb140, 0, none⟩) (Kd.S_types HO_6.out BK140.out (by decide)) (fun _ hk => hk.2) (.int .i64 0)) (fun _ hk => hk.2) (.int .i64 0)) (fun _ hk => trivial), by repeat (first | (with_reducible first | exact HB.out | apply below_alloc | apply pw_below_drewN | apply below_drew1 | refine below_set ?_ GE140.out | refine below_set ?_ GE144.out) | exact HB.out)⟩

/-! ### glebelaw10_Text: function 5 -/
def glebelaw10_Text.l0 : Nat → List Int → List ByteArray → List Int → Int → Option (List Int)
  | 0, _, _, _, _ => none
  | k + 1, x0, x3, x4, x5 => if x5 < (x0.length : Int) then (if x5 < 60 then (if 0 ≤ x5 then (if (x3.length : Int) = 0 then (none) else (if 0 ≤ (Int.tmod (Go.bits .and .i64 (rd x0 x5) 65535) (x3.length : Int)) then (if (Int.tmod (Go.bits .and .i64 (rd x0 x5) 65535) (x3.length : Int)) < (x3.length : Int) then (if x4.length + (rdOf ByteArray.empty x3 (Int.tmod (Go.bits .and .i64 (rd x0 x5) 65535) (x3.length : Int))).size < 140737488355328 then (glebelaw10_Text.l0 k x0 x3 (x4 ++ bytesOf (rdOf ByteArray.empty x3 (Int.tmod (Go.bits .and .i64 (rd x0 x5) 65535) (x3.length : Int)))) (wrap64 (x5 + 1))) else (none)) else (none)) else (none))) else (none)) else (some x4)) else (some x4)
def glebelaw10_Text.f (k : Nat) (l0 : List Int) : Option (List Int) := glebelaw10_Text.l0 k l0 (([(⟨#[100, 104, 99, 112, 45, 114, 97, 110, 103, 101]⟩ : ByteArray), (⟨#[100, 104, 99, 112, 45, 111, 112, 116, 105, 111, 110]⟩ : ByteArray), (⟨#[100, 104, 99, 112, 45, 104, 111, 115, 116]⟩ : ByteArray), (⟨#[100, 111, 109, 97, 105, 110]⟩ : ByteArray), (⟨#[61]⟩ : ByteArray), (⟨#[61]⟩ : ByteArray), (⟨#[44]⟩ : ByteArray), (⟨#[44]⟩ : ByteArray), (⟨#[10]⟩ : ByteArray), (⟨#[10]⟩ : ByteArray), (⟨#[13, 10]⟩ : ByteArray), (⟨#[35]⟩ : ByteArray), (⟨#[49, 48, 46, 48, 46, 48, 46, 49]⟩ : ByteArray), (⟨#[49, 48, 46, 48, 46, 48, 46, 57]⟩ : ByteArray), (⟨#[50, 53, 53, 46, 50, 53, 53, 46, 50, 53, 53, 46, 48]⟩ : ByteArray), (⟨#[51, 54, 48, 48]⟩ : ByteArray), (⟨#[51]⟩ : ByteArray), (⟨#[54]⟩ : ByteArray), (⟨#[49, 53]⟩ : ByteArray), (⟨#[111, 112, 116, 105, 111, 110, 58, 114, 111, 117, 116, 101, 114, 115]⟩ : ByteArray), (⟨#[111, 112, 116, 105, 111, 110, 58, 100, 111, 109, 97, 105, 110, 45, 110, 97, 109, 101]⟩ : ByteArray), (⟨#[108, 97, 110]⟩ : ByteArray), (⟨#[48, 48, 58, 48, 48, 58, 48, 48, 58, 48, 48, 58, 48, 48, 58, 48, 49]⟩ : ByteArray), (⟨#[49, 48, 46, 48, 46, 48, 46, 53]⟩ : ByteArray), (⟨#[104]⟩ : ByteArray), (⟨#[32]⟩ : ByteArray), (⟨#[195, 169]⟩ : ByteArray), (⟨#[]⟩ : ByteArray), (⟨#[100, 104, 99, 112, 45, 114, 97, 110, 103, 101, 61, 49, 48, 46, 48, 46, 48, 46, 49, 44, 49, 48, 46, 48, 46, 48, 46, 57, 44, 50, 53, 53, 46, 50, 53, 53, 46, 50, 53, 53, 46, 48, 10]⟩ : ByteArray), (⟨#[100, 104, 99, 112, 45, 111, 112, 116, 105, 111, 110, 61, 51, 44, 49, 48, 46, 48, 46, 48, 46, 49, 10]⟩ : ByteArray), (⟨#[100, 104, 99, 112, 45, 104, 111, 115, 116, 61, 48, 48, 58, 48, 48, 58, 48, 48, 58, 48, 48, 58, 48, 48, 58, 48, 50, 44, 49, 48, 46, 48, 46, 48, 46, 54, 44, 98, 10]⟩ : ByteArray)] : List ByteArray)) ([] : List Int) 0
theorem glebelaw10_Text.mono_l : ∀ k, (∀ y0 y1 y2 y3, LeO (glebelaw10_Text.l0 k y0 y1 y2 y3) (glebelaw10_Text.l0 (k + 1) y0 y1 y2 y3))
  | 0 => fun _ _ _ _ r h => by simp [glebelaw10_Text.l0] at h
  | k + 1 => by
    have ih0 := glebelaw10_Text.mono_l k
    · intro y0 y1 y2 y3
      unfold glebelaw10_Text.l0
      repeat' first
      | (with_reducible exact ih0 _ _ _ _)
      | (with_reducible exact LeO.refl _)
      | (with_reducible exact LeO.none _)
      | (with_reducible refine LeO.ite ?_ ?_)
      | (with_reducible refine LeO.bind ?_ (fun _ => ?_))
      | exact ih0 _ _ _ _
      | exact LeO.none _
      | refine LeO.ite ?_ ?_
      | refine LeO.bind ?_ (fun _ => ?_)
theorem glebelaw10_Text.mono : ∀ a0 k, LeO (glebelaw10_Text.f k a0) (glebelaw10_Text.f (k + 1) a0) := by
  intro a0 k
  have ih0 := glebelaw10_Text.mono_l k
  unfold glebelaw10_Text.f
  repeat' first
      | (with_reducible exact ih0 _ _ _ _)
      | (with_reducible exact LeO.refl _)
      | (with_reducible exact LeO.none _)
      | (with_reducible refine LeO.ite ?_ ?_)
      | (with_reducible refine LeO.bind ?_ (fun _ => ?_))
      | exact ih0 _ _ _ _
      | exact LeO.none _
      | refine LeO.ite ?_ ?_
      | refine LeO.bind ?_ (fun _ => ?_)
set_option maxHeartbeats 8000000 in
set_option maxRecDepth 100000 in
theorem glebelaw10_Text.calls (k : Nat) (A0 : Option Addr) (c0 : Nat) (l0 : List Int) (r : List Int) (w : World) (hr0 : Kd.C (Kd.int .i64) w A0 l0.length l0) (hc0 : l0.length ≤ c0) (h : glebelaw10_Text.f k l0 = some r) :
    Calls Try.prog 5 #[.slice A0 l0.length c0] w fun e w' => ∃ v0_ : Value, e = .returned (v0_) ∧ Kd.R (Kd.int .u8) 5 w' w.heap.size (fun _ => True) v0_ r ∧ Below w.heap.size w w' := by
  have HR0 := Aside0.mk hr0
  have HC0 := Aside0.mk hc0
  clear hr0 hc0
  have HB := Aside0.mk (Below.refl w.heap.size w)
  have H : (glebelaw10_Text.l0 k l0 (([(⟨#[100, 104, 99, 112, 45, 114, 97, 110, 103, 101]⟩ : ByteArray), (⟨#[100, 104, 99, 112, 45, 111, 112, 116, 105, 111, 110]⟩ : ByteArray), (⟨#[100, 104, 99, 112, 45, 104, 111, 115, 116]⟩ : ByteArray), (⟨#[100, 111, 109, 97, 105, 110]⟩ : ByteArray), (⟨#[61]⟩ : ByteArray), (⟨#[61]⟩ : ByteArray), (⟨#[44]⟩ : ByteArray), (⟨#[44]⟩ : ByteArray), (⟨#[10]⟩ : ByteArray), (⟨#[10]⟩ : ByteArray), (⟨#[13, 10]⟩ : ByteArray), (⟨#[35]⟩ : ByteArray), (⟨#[49, 48, 46, 48, 46, 48, 46, 49]⟩ : ByteArray), (⟨#[49, 48, 46, 48, 46, 48, 46, 57]⟩ : ByteArray), (⟨#[50, 53, 53, 46, 50, 53, 53, 46, 50, 53, 53, 46, 48]⟩ : ByteArray), (⟨#[51, 54, 48, 48]⟩ : ByteArray), (⟨#[51]⟩ : ByteArray), (⟨#[54]⟩ : ByteArray), (⟨#[49, 53]⟩ : ByteArray), (⟨#[111, 112, 116, 105, 111, 110, 58, 114, 111, 117, 116, 101, 114, 115]⟩ : ByteArray), (⟨#[111, 112, 116, 105, 111, 110, 58, 100, 111, 109, 97, 105, 110, 45, 110, 97, 109, 101]⟩ : ByteArray), (⟨#[108, 97, 110]⟩ : ByteArray), (⟨#[48, 48, 58, 48, 48, 58, 48, 48, 58, 48, 48, 58, 48, 48, 58, 48, 49]⟩ : ByteArray), (⟨#[49, 48, 46, 48, 46, 48, 46, 53]⟩ : ByteArray), (⟨#[104]⟩ : ByteArray), (⟨#[32]⟩ : ByteArray), (⟨#[195, 169]⟩ : ByteArray), (⟨#[]⟩ : ByteArray), (⟨#[100, 104, 99, 112, 45, 114, 97, 110, 103, 101, 61, 49, 48, 46, 48, 46, 48, 46, 49, 44, 49, 48, 46, 48, 46, 48, 46, 57, 44, 50, 53, 53, 46, 50, 53, 53, 46, 50, 53, 53, 46, 48, 10]⟩ : ByteArray), (⟨#[100, 104, 99, 112, 45, 111, 112, 116, 105, 111, 110, 61, 51, 44, 49, 48, 46, 48, 46, 48, 46, 49, 10]⟩ : ByteArray), (⟨#[100, 104, 99, 112, 45, 104, 111, 115, 116, 61, 48, 48, 58, 48, 48, 58, 48, 48, 58, 48, 48, 58, 48, 48, 58, 48, 50, 44, 49, 48, 46, 48, 46, 48, 46, 54, 44, 98, 10]⟩ : ByteArray)] : List ByteArray)) ([] : List Int) 0) = some r := h
  clear h
  obtain ⟨y162, hy162⟩ : ∃ y_ : List ByteArray, y_ = (([(⟨#[100, 104, 99, 112, 45, 114, 97, 110, 103, 101]⟩ : ByteArray), (⟨#[100, 104, 99, 112, 45, 111, 112, 116, 105, 111, 110]⟩ : ByteArray), (⟨#[100, 104, 99, 112, 45, 104, 111, 115, 116]⟩ : ByteArray), (⟨#[100, 111, 109, 97, 105, 110]⟩ : ByteArray), (⟨#[61]⟩ : ByteArray), (⟨#[61]⟩ : ByteArray), (⟨#[44]⟩ : ByteArray), (⟨#[44]⟩ : ByteArray), (⟨#[10]⟩ : ByteArray), (⟨#[10]⟩ : ByteArray), (⟨#[13, 10]⟩ : ByteArray), (⟨#[35]⟩ : ByteArray), (⟨#[49, 48, 46, 48, 46, 48, 46, 49]⟩ : ByteArray), (⟨#[49, 48, 46, 48, 46, 48, 46, 57]⟩ : ByteArray), (⟨#[50, 53, 53, 46, 50, 53, 53, 46, 50, 53, 53, 46, 48]⟩ : ByteArray), (⟨#[51, 54, 48, 48]⟩ : ByteArray), (⟨#[51]⟩ : ByteArray), (⟨#[54]⟩ : ByteArray), (⟨#[49, 53]⟩ : ByteArray), (⟨#[111, 112, 116, 105, 111, 110, 58, 114, 111, 117, 116, 101, 114, 115]⟩ : ByteArray), (⟨#[111, 112, 116, 105, 111, 110, 58, 100, 111, 109, 97, 105, 110, 45, 110, 97, 109, 101]⟩ : ByteArray), (⟨#[108, 97, 110]⟩ : ByteArray), (⟨#[48, 48, 58, 48, 48, 58, 48, 48, 58, 48, 48, 58, 48, 48, 58, 48, 49]⟩ : ByteArray), (⟨#[49, 48, 46, 48, 46, 48, 46, 53]⟩ : ByteArray), (⟨#[104]⟩ : ByteArray), (⟨#[32]⟩ : ByteArray), (⟨#[195, 169]⟩ : ByteArray), (⟨#[]⟩ : ByteArray), (⟨#[100, 104, 99, 112, 45, 114, 97, 110, 103, 101, 61, 49, 48, 46, 48, 46, 48, 46, 49, 44, 49, 48, 46, 48, 46, 48, 46, 57, 44, 50, 53, 53, 46, 50, 53, 53, 46, 50, 53, 53, 46, 48, 10]⟩ : ByteArray), (⟨#[100, 104, 99, 112, 45, 111, 112, 116, 105, 111, 110, 61, 51, 44, 49, 48, 46, 48, 46, 48, 46, 49, 10]⟩ : ByteArray), (⟨#[100, 104, 99, 112, 45, 104, 111, 115, 116, 61, 48, 48, 58, 48, 48, 58, 48, 48, 58, 48, 48, 58, 48, 48, 58, 48, 50, 44, 49, 48, 46, 48, 46, 48, 46, 54, 44, 98, 10]⟩ : ByteArray)] : List ByteArray)) := ⟨_, rfl⟩
  replace H : (glebelaw10_Text.l0 k l0 y162 ([] : List Int) 0) = some r := by first | (rw [hy162]; with_reducible exact H) | (have H2_ := (Option.bind_some _ _).symm.trans H; rw [hy162]; with_reducible exact H2_) | (have H2_ := (Option.bind_some _ _).symm.trans H; with_reducible exact H2_) | with_reducible exact H | (rw [hy162]; exact H) | exact H
  have Ny162 := Aside0.mk hy162
  clear hy162
  have H' := Aside0.mk H
  clear H
  go_enter Try.func5, Try.ntmps5
  go_wp2_with (first | ((with_reducible refine gate_dst (N := 6) rfl ?_); refine Kd.R_lit Kd.string _ 9 ?hg (N := 6) ?hd (xs := ([(⟨#[100, 104, 99, 112, 45, 114, 97, 110, 103, 101]⟩ : ByteArray), (⟨#[100, 104, 99, 112, 45, 111, 112, 116, 105, 111, 110]⟩ : ByteArray), (⟨#[100, 104, 99, 112, 45, 104, 111, 115, 116]⟩ : ByteArray), (⟨#[100, 111, 109, 97, 105, 110]⟩ : ByteArray), (⟨#[61]⟩ : ByteArray), (⟨#[61]⟩ : ByteArray), (⟨#[44]⟩ : ByteArray), (⟨#[44]⟩ : ByteArray), (⟨#[10]⟩ : ByteArray), (⟨#[10]⟩ : ByteArray), (⟨#[13, 10]⟩ : ByteArray), (⟨#[35]⟩ : ByteArray), (⟨#[49, 48, 46, 48, 46, 48, 46, 49]⟩ : ByteArray), (⟨#[49, 48, 46, 48, 46, 48, 46, 57]⟩ : ByteArray), (⟨#[50, 53, 53, 46, 50, 53, 53, 46, 50, 53, 53, 46, 48]⟩ : ByteArray), (⟨#[51, 54, 48, 48]⟩ : ByteArray), (⟨#[51]⟩ : ByteArray), (⟨#[54]⟩ : ByteArray), (⟨#[49, 53]⟩ : ByteArray), (⟨#[111, 112, 116, 105, 111, 110, 58, 114, 111, 117, 116, 101, 114, 115]⟩ : ByteArray), (⟨#[111, 112, 116, 105, 111, 110, 58, 100, 111, 109, 97, 105, 110, 45, 110, 97, 109, 101]⟩ : ByteArray), (⟨#[108, 97, 110]⟩ : ByteArray), (⟨#[48, 48, 58, 48, 48, 58, 48, 48, 58, 48, 48, 58, 48, 48, 58, 48, 49]⟩ : ByteArray), (⟨#[49, 48, 46, 48, 46, 48, 46, 53]⟩ : ByteArray), (⟨#[104]⟩ : ByteArray), (⟨#[32]⟩ : ByteArray), (⟨#[195, 169]⟩ : ByteArray), (⟨#[]⟩ : ByteArray), (⟨#[100, 104, 99, 112, 45, 114, 97, 110, 103, 101, 61, 49, 48, 46, 48, 46, 48, 46, 49, 44, 49, 48, 46, 48, 46, 48, 46, 57, 44, 50, 53, 53, 46, 50, 53, 53, 46, 50, 53, 53, 46, 48, 10]⟩ : ByteArray), (⟨#[100, 104, 99, 112, 45, 111, 112, 116, 105, 111, 110, 61, 51, 44, 49, 48, 46, 48, 46, 48, 46, 49, 10]⟩ : ByteArray), (⟨#[100, 104, 99, 112, 45, 104, 111, 115, 116, 61, 48, 48, 58, 48, 48, 58, 48, 48, 58, 48, 48, 58, 48, 48, 58, 48, 50, 44, 49, 48, 46, 48, 46, 48, 46, 54, 44, 98, 10]⟩ : ByteArray)] : List ByteArray)) (inner := [.string (⟨#[100, 104, 99, 112, 45, 114, 97, 110, 103, 101]⟩ : ByteArray), .string (⟨#[100, 104, 99, 112, 45, 111, 112, 116, 105, 111, 110]⟩ : ByteArray), .string (⟨#[100, 104, 99, 112, 45, 104, 111, 115, 116]⟩ : ByteArray), .string (⟨#[100, 111, 109, 97, 105, 110]⟩ : ByteArray), .string (⟨#[61]⟩ : ByteArray), .string (⟨#[61]⟩ : ByteArray), .string (⟨#[44]⟩ : ByteArray), .string (⟨#[44]⟩ : ByteArray), .string (⟨#[10]⟩ : ByteArray), .string (⟨#[10]⟩ : ByteArray), .string (⟨#[13, 10]⟩ : ByteArray), .string (⟨#[35]⟩ : ByteArray), .string (⟨#[49, 48, 46, 48, 46, 48, 46, 49]⟩ : ByteArray), .string (⟨#[49, 48, 46, 48, 46, 48, 46, 57]⟩ : ByteArray), .string (⟨#[50, 53, 53, 46, 50, 53, 53, 46, 50, 53, 53, 46, 48]⟩ : ByteArray), .string (⟨#[51, 54, 48, 48]⟩ : ByteArray), .string (⟨#[51]⟩ : ByteArray), .string (⟨#[54]⟩ : ByteArray), .string (⟨#[49, 53]⟩ : ByteArray), .string (⟨#[111, 112, 116, 105, 111, 110, 58, 114, 111, 117, 116, 101, 114, 115]⟩ : ByteArray), .string (⟨#[111, 112, 116, 105, 111, 110, 58, 100, 111, 109, 97, 105, 110, 45, 110, 97, 109, 101]⟩ : ByteArray), .string (⟨#[108, 97, 110]⟩ : ByteArray), .string (⟨#[48, 48, 58, 48, 48, 58, 48, 48, 58, 48, 48, 58, 48, 48, 58, 48, 49]⟩ : ByteArray), .string (⟨#[49, 48, 46, 48, 46, 48, 46, 53]⟩ : ByteArray), .string (⟨#[104]⟩ : ByteArray), .string (⟨#[32]⟩ : ByteArray), .string (⟨#[195, 169]⟩ : ByteArray), .string (⟨#[]⟩ : ByteArray), .string (⟨#[100, 104, 99, 112, 45, 114, 97, 110, 103, 101, 61, 49, 48, 46, 48, 46, 48, 46, 49, 44, 49, 48, 46, 48, 46, 48, 46, 57, 44, 50, 53, 53, 46, 50, 53, 53, 46, 50, 53, 53, 46, 48, 10]⟩ : ByteArray), .string (⟨#[100, 104, 99, 112, 45, 111, 112, 116, 105, 111, 110, 61, 51, 44, 49, 48, 46, 48, 46, 48, 46, 49, 10]⟩ : ByteArray), .string (⟨#[100, 104, 99, 112, 45, 104, 111, 115, 116, 61, 48, 48, 58, 48, 48, 58, 48, 48, 58, 48, 48, 58, 48, 48, 58, 48, 50, 44, 49, 48, 46, 48, 46, 48, 46, 54, 44, 98, 10]⟩ : ByteArray)]) (ok := fun _ => True) (okp := fun _ => True) ?hr ?hp (fun _ hk => hk) trivial (Below.refl _ _) (Nat.le_refl _) (by simp) ?_; (case hd => rfl); (case hg => rfl); (case hr => first | (go_simp; done) | (go_simp; rfl)); (case hp => exact (Reps.one (show Kd.M Kd.string _ _ _ (⟨#[100, 104, 99, 112, 45, 114, 97, 110, 103, 101]⟩ : ByteArray) [.string (⟨#[100, 104, 99, 112, 45, 114, 97, 110, 103, 101]⟩ : ByteArray)] from rfl) (Reps.one (show Kd.M Kd.string _ _ _ (⟨#[100, 104, 99, 112, 45, 111, 112, 116, 105, 111, 110]⟩ : ByteArray) [.string (⟨#[100, 104, 99, 112, 45, 111, 112, 116, 105, 111, 110]⟩ : ByteArray)] from rfl) (Reps.one (show Kd.M Kd.string _ _ _ (⟨#[100, 104, 99, 112, 45, 104, 111, 115, 116]⟩ : ByteArray) [.string (⟨#[100, 104, 99, 112, 45, 104, 111, 115, 116]⟩ : ByteArray)] from rfl) (Reps.one (show Kd.M Kd.string _ _ _ (⟨#[100, 111, 109, 97, 105, 110]⟩ : ByteArray) [.string (⟨#[100, 111, 109, 97, 105, 110]⟩ : ByteArray)] from rfl) (Reps.one (show Kd.M Kd.string _ _ _ (⟨#[61]⟩ : ByteArray) [.string (⟨#[61]⟩ : ByteArray)] from rfl) (Reps.one (show Kd.M Kd.string _ _ _ (⟨#[61]⟩ : ByteArray) [.string (⟨#[61]⟩ : ByteArray)] from rfl) (Reps.one (show Kd.M Kd.string _ _ _ (⟨#[44]⟩ : ByteArray) [.string (⟨#[44]⟩ : ByteArray)] from rfl) (Reps.one (show Kd.M Kd.string _ _ _ (⟨#[44]⟩ : ByteArray) [.string (⟨#[44]⟩ : ByteArray)] from rfl) (Reps.one (show Kd.M Kd.string _ _ _ (⟨#[10]⟩ : ByteArray) [.string (⟨#[10]⟩ : ByteArray)] from rfl) (Reps.one (show Kd.M Kd.string _ _ _ (⟨#[10]⟩ : ByteArray) [.string (⟨#[10]⟩ : ByteArray)] from rfl) (Reps.one (show Kd.M Kd.string _ _ _ (⟨#[13, 10]⟩ : ByteArray) [.string (⟨#[13, 10]⟩ : ByteArray)] from rfl) (Reps.one (show Kd.M Kd.string _ _ _ (⟨#[35]⟩ : ByteArray) [.string (⟨#[35]⟩ : ByteArray)] from rfl) (Reps.one (show Kd.M Kd.string _ _ _ (⟨#[49, 48, 46, 48, 46, 48, 46, 49]⟩ : ByteArray) [.string (⟨#[49, 48, 46, 48, 46, 48, 46, 49]⟩ : ByteArray)] from rfl) (Reps.one (show Kd.M Kd.string _ _ _ (⟨#[49, 48, 46, 48, 46, 48, 46, 57]⟩ : ByteArray) [.string (⟨#[49, 48, 46, 48, 46, 48, 46, 57]⟩ : ByteArray)] from rfl) (Reps.one (show Kd.M Kd.string _ _ _ (⟨#[50, 53, 53, 46, 50, 53, 53, 46, 50, 53, 53, 46, 48]⟩ : ByteArray) [.string (⟨#[50, 53, 53, 46, 50, 53, 53, 46, 50, 53, 53, 46, 48]⟩ : ByteArray)] from rfl) (Reps.one (show Kd.M Kd.string _ _ _ (⟨#[51, 54, 48, 48]⟩ : ByteArray) [.string (⟨#[51, 54, 48, 48]⟩ : ByteArray)] from rfl) (Reps.one (show Kd.M Kd.string _ _ _ (⟨#[51]⟩ : ByteArray) [.string (⟨#[51]⟩ : ByteArray)] from rfl) (Reps.one (show Kd.M Kd.string _ _ _ (⟨#[54]⟩ : ByteArray) [.string (⟨#[54]⟩ : ByteArray)] from rfl) (Reps.one (show Kd.M Kd.string _ _ _ (⟨#[49, 53]⟩ : ByteArray) [.string (⟨#[49, 53]⟩ : ByteArray)] from rfl) (Reps.one (show Kd.M Kd.string _ _ _ (⟨#[111, 112, 116, 105, 111, 110, 58, 114, 111, 117, 116, 101, 114, 115]⟩ : ByteArray) [.string (⟨#[111, 112, 116, 105, 111, 110, 58, 114, 111, 117, 116, 101, 114, 115]⟩ : ByteArray)] from rfl) (Reps.one (show Kd.M Kd.string _ _ _ (⟨#[111, 112, 116, 105, 111, 110, 58, 100, 111, 109, 97, 105, 110, 45, 110, 97, 109, 101]⟩ : ByteArray) [.string (⟨#[111, 112, 116, 105, 111, 110, 58, 100, 111, 109, 97, 105, 110, 45, 110, 97, 109, 101]⟩ : ByteArray)] from rfl) (Reps.one (show Kd.M Kd.string _ _ _ (⟨#[108, 97, 110]⟩ : ByteArray) [.string (⟨#[108, 97, 110]⟩ : ByteArray)] from rfl) (Reps.one (show Kd.M Kd.string _ _ _ (⟨#[48, 48, 58, 48, 48, 58, 48, 48, 58, 48, 48, 58, 48, 48, 58, 48, 49]⟩ : ByteArray) [.string (⟨#[48, 48, 58, 48, 48, 58, 48, 48, 58, 48, 48, 58, 48, 48, 58, 48, 49]⟩ : ByteArray)] from rfl) (Reps.one (show Kd.M Kd.string _ _ _ (⟨#[49, 48, 46, 48, 46, 48, 46, 53]⟩ : ByteArray) [.string (⟨#[49, 48, 46, 48, 46, 48, 46, 53]⟩ : ByteArray)] from rfl) (Reps.one (show Kd.M Kd.string _ _ _ (⟨#[104]⟩ : ByteArray) [.string (⟨#[104]⟩ : ByteArray)] from rfl) (Reps.one (show Kd.M Kd.string _ _ _ (⟨#[32]⟩ : ByteArray) [.string (⟨#[32]⟩ : ByteArray)] from rfl) (Reps.one (show Kd.M Kd.string _ _ _ (⟨#[195, 169]⟩ : ByteArray) [.string (⟨#[195, 169]⟩ : ByteArray)] from rfl) (Reps.one (show Kd.M Kd.string _ _ _ (⟨#[]⟩ : ByteArray) [.string (⟨#[]⟩ : ByteArray)] from rfl) (Reps.one (show Kd.M Kd.string _ _ _ (⟨#[100, 104, 99, 112, 45, 114, 97, 110, 103, 101, 61, 49, 48, 46, 48, 46, 48, 46, 49, 44, 49, 48, 46, 48, 46, 48, 46, 57, 44, 50, 53, 53, 46, 50, 53, 53, 46, 50, 53, 53, 46, 48, 10]⟩ : ByteArray) [.string (⟨#[100, 104, 99, 112, 45, 114, 97, 110, 103, 101, 61, 49, 48, 46, 48, 46, 48, 46, 49, 44, 49, 48, 46, 48, 46, 48, 46, 57, 44, 50, 53, 53, 46, 50, 53, 53, 46, 50, 53, 53, 46, 48, 10]⟩ : ByteArray)] from rfl) (Reps.one (show Kd.M Kd.string _ _ _ (⟨#[100, 104, 99, 112, 45, 111, 112, 116, 105, 111, 110, 61, 51, 44, 49, 48, 46, 48, 46, 48, 46, 49, 10]⟩ : ByteArray) [.string (⟨#[100, 104, 99, 112, 45, 111, 112, 116, 105, 111, 110, 61, 51, 44, 49, 48, 46, 48, 46, 48, 46, 49, 10]⟩ : ByteArray)] from rfl) (Reps.one (show Kd.M Kd.string _ _ _ (⟨#[100, 104, 99, 112, 45, 104, 111, 115, 116, 61, 48, 48, 58, 48, 48, 58, 48, 48, 58, 48, 48, 58, 48, 48, 58, 48, 50, 44, 49, 48, 46, 48, 46, 48, 46, 54, 44, 98, 10]⟩ : ByteArray) [.string (⟨#[100, 104, 99, 112, 45, 104, 111, 115, 116, 61, 48, 48, 58, 48, 48, 58, 48, 48, 58, 48, 48, 58, 48, 48, 58, 48, 50, 44, 49, 48, 46, 48, 46, 48, 46, 54, 44, 98, 10]⟩ : ByteArray)] from rfl) (Reps.none _ _))))))))))))))))))))))))))))))))); intro v163 w2 ho3 hb hg_ hnew_; clear hg_ hnew_; (first | rw [← Ny162.out] at ho3 | (simp only [Int.reduceToNat] at ho3; rw [← Ny162.out] at ho3)); have n0_ := Aside0.mk (Kd.R_lower ho3 (below_size (by repeat (first | (with_reducible first | exact HB.out | apply below_alloc | apply pw_below_drewN | apply below_drew1) | exact HB.out)))); have n1_ := Aside0.mk (below_step (by repeat (first | (with_reducible first | exact HB.out | apply below_alloc | apply pw_below_drewN | apply below_drew1) | exact HB.out)) hb); clear HB; have HO164 := n0_; have HB := n1_; clear n0_ n1_; clear hb ho3))
  go_loopg [4, 5] k (fun kq v4 v5 w' => ∃ (x4_1 : List Int) (x5_1 : Int), v5 = .int .i64 x5_1 ∧ Aside0 (glebelaw10_Text.l0 kq l0 y162 x4_1 x5_1 = some r) ∧ Aside0 (kq ≤ k) ∧ Aside0 (Kd.R Kd.string 9 w' w.heap.size (fun _ => True) v163 y162) ∧ Aside0 (Kd.R (Kd.int .u8) 5 w' w.heap.size (fun _ => True) v4 x4_1) ∧ Aside0 (Below w.heap.size w w'))
  case atStart => exact ⟨(([] : List Int)), (0), (by first | rfl | (simp only [i64_w]; done) | (simp; done) | (simp [*]; done)), H', ⟨Nat.le_refl _⟩, ⟨by (with_reducible repeat (first | apply Kd.R_alloc | apply Kd.R_drewN | apply Kd.R_drew)); exact HO164.out⟩, ⟨by first | exact Kd.R_nil _ _ _ _ _ | exact Kd.N_nil _ _ _ _ _ | exact Kd.V_nil _ _ _ _ _ | exact Kd.Q_nil _ _ _ _ _ | exact Kd.S_nil _ _ _ _ _⟩, ⟨by repeat (first | (with_reducible first | exact HB.out | apply below_alloc | apply pw_below_drewN | apply below_drew1) | exact HB.out)⟩⟩
  case round =>
    clear H'
    try clear p2
    obtain ⟨x4_1, x5_1, rfl, HA, HK1, HO_3, HO_4, HB⟩ := hrel
    cases gk with
    | zero => exact absurd HA.out (by simp [glebelaw10_Text.l0])
    | succ k1 =>
      have H := HA.out
      clear HA
      simp only [glebelaw10_Text.l0] at H
      by_cases c4 : x5_1 < (l0.length : Int)
      · rw [if_pos c4] at H
        have c4b0 : decide (x5_1 < (l0.length : Int)) = true := decide_eq_true c4
        clear c4
        by_cases c5 : x5_1 < 60
        · rw [if_pos c5] at H
          have c5b0 : decide (x5_1 < 60) = true := decide_eq_true c5
          clear c5
          by_cases c6 : 0 ≤ x5_1
          · rw [if_pos c6] at H
            have c6b0 : decide (0 ≤ x5_1) = true := decide_eq_true c6
            clear c6
            by_cases c7 : (y162.length : Int) = 0
            · rw [if_pos c7] at H
              exact absurd H (by simp)
            · rw [if_neg c7] at H
              have c7b0 : ((y162.length : Int) == 0) = false := beq_eq_false_iff_ne.mpr c7
              have c7b1 : ((y162.length : Int) != 0) = true := bne_iff_ne.mpr c7
              have c7b2 : ¬ (y162 = []) := fun h_ => c7 (by rw [h_]; rfl)
              obtain ⟨ji8, hji8⟩ : ∃ j_ : Int, (Int.tmod (Go.bits .and .i64 (rd l0 x5_1) 65535) (y162.length : Int)) = j_ := ⟨_, rfl⟩
              replace H : (if 0 ≤ (ji8) then (if (ji8) < (y162.length : Int) then (if x4_1.length + (rdOf ByteArray.empty y162 (ji8)).size < 140737488355328 then (glebelaw10_Text.l0 k1 l0 y162 (x4_1 ++ bytesOf (rdOf ByteArray.empty y162 (ji8))) (wrap64 (x5_1 + 1))) else (none)) else (none)) else (none)) = some r := by first | (rw [hji8] at H; exact H) | (simp only [hji8] at H ⊢; exact H)
              by_cases c9 : 0 ≤ (ji8)
              · rw [if_pos c9] at H
                have c9b0 : decide (0 ≤ (ji8)) = true := decide_eq_true c9
                clear c9
                by_cases c10 : (ji8) < (y162.length : Int)
                · rw [if_pos c10] at H
                  have c10b0 : decide ((ji8) < (y162.length : Int)) = true := decide_eq_true c10
                  clear c10
                  by_cases c11 : x4_1.length + (rdOf ByteArray.empty y162 (ji8)).size < 140737488355328
                  · rw [if_pos c11] at H
                    have LMc11 := Aside0.mk c11
                    clear c11
                    obtain ⟨y167, hy167⟩ : ∃ y_ : List Int, y_ = (x4_1 ++ bytesOf (rdOf ByteArray.empty y162 (ji8))) := ⟨_, rfl⟩
                    replace H : (glebelaw10_Text.l0 k1 l0 y162 y167 (wrap64 (x5_1 + 1))) = some r := by first | (rw [hy167]; with_reducible exact H) | (have H2_ := (Option.bind_some _ _).symm.trans H; rw [hy167]; with_reducible exact H2_) | (have H2_ := (Option.bind_some _ _).symm.trans H; with_reducible exact H2_) | with_reducible exact H | (rw [hy167]; exact H) | exact H
                    have Ny167 := Aside0.mk hy167
                    clear hy167
                    have H' := Aside0.mk H
                    clear H
                    have p165 : 0 ≤ (x5_1 : Int) := of_decide_eq_true (by first | (with_reducible assumption) | assumption)
                    have q165 : x5_1 < (l0.length : Int) := of_decide_eq_true (by first | (with_reducible assumption) | assumption)
                    obtain ⟨ad165, e165, hx165_0⟩ := Kd.at_int HR0.out x5_1 p165 q165
                    cases e165
                    replace hx165_0 := (HB.out.cell (World.block_lt_of_cell? w _ hx165_0)).trans hx165_0
                    replace p165 := eq_true p165
                    replace q165 := eq_true q165
                    obtain ⟨Ao12, co12, eo12⟩ := Kd.R_slice HO_3.out
                    subst eo12
                    have p166 : 0 ≤ ((ji8) : Int) := of_decide_eq_true (by first | (with_reducible assumption) | assumption)
                    have q166 : (ji8) < (y162.length : Int) := of_decide_eq_true (by first | (with_reducible assumption) | assumption)
                    obtain ⟨ad166, e166, hx166_0⟩ := Kd.at_string (Kd.R_reads' HO_3.out).2.2 (ji8) p166 q166
                    cases e166
                    replace p166 := eq_true p166
                    replace q166 := eq_true q166
                    go_wp2_with (first | (at_builtin; refine print_append_str (w0 := w) w.heap.size rfl (.tmp 17) _ 29 9 5 rfl Try.underlying29 Try.underlying9 info5 u4 x4_1 (rdOf ByteArray.empty y162 (ji8)) rfl rfl ?aO ?aB ?aS ?aL ?_; (case aB => exact (by repeat (first | (with_reducible first | exact HB.out | apply below_alloc | apply pw_below_drewN | apply below_drew1) | exact HB.out))); (case aO => exact (Kd.own_of_R (by (with_reducible repeat (first | apply Kd.R_alloc | apply Kd.R_drewN | apply Kd.R_drew)); exact HO_4.out))); (case aS => exact (below_size (by repeat (first | (with_reducible first | exact HB.out | apply below_alloc | apply pw_below_drewN | apply below_drew1) | exact HB.out)))); (case aL => have := LMc11.out; omega); intro v168 w13 ho0 hb hg; have ho := Kd.R_of_own (h1 := fun _ => rfl) (ok := fun _ => True) ho0 (fun _ _ => trivial); clear ho0; have hat := True.intro; rw [← Ny167.out] at ho; change Kd.R (Kd.int .u8) 5 w13 w.heap.size (fun _ => True) v168 y167 at ho; have n0_ := Aside0.mk (Kd.R_over' (by (with_reducible repeat (first | apply Kd.R_alloc | apply Kd.R_drewN | apply Kd.R_drew)); exact HO_3.out) (Kd.R_typed (by (with_reducible repeat (first | apply Kd.R_alloc | apply Kd.R_drewN | apply Kd.R_drew)); exact HO_4.out)) (by decide) hg); have n1_ := Aside0.mk (hb); have n2_ := Aside0.mk (ho); clear HO_3; clear HB; clear HO_4; have HO_3 := n0_; have HB := n1_; have HO169 := n2_; clear n0_ n1_ n2_; clear ho hb hg hat))
                    go_roundg k1
                    case measure => have := HK1.out; omega
                    case rel => exact ⟨(y167), (wrap64 (x5_1 + 1)), (by first | rfl | (simp only [i64_w]; done) | (simp; done) | (simp [*]; done)), H', ⟨by have := HK1.out; omega⟩, ⟨by (with_reducible repeat (first | apply Kd.R_alloc | apply Kd.R_drewN | apply Kd.R_drew)); exact HO_3.out⟩, ⟨by (with_reducible repeat (first | apply Kd.R_alloc | apply Kd.R_drewN | apply Kd.R_drew)); exact HO169.out⟩, ⟨by repeat (first | (with_reducible first | exact HB.out | apply below_alloc | apply pw_below_drewN | apply below_drew1) | exact HB.out)⟩⟩
                  · rw [if_neg c11] at H
                    exact absurd H (by simp)
                · rw [if_neg c10] at H
                  exact absurd H (by simp)
              · rw [if_neg c9] at H
                exact absurd H (by simp)
          · rw [if_neg c6] at H
            exact absurd H (by simp)
        · rw [if_neg c5] at H
          have c5b0 : decide (x5_1 < 60) = false := decide_eq_false c5
          clear c5
          obtain rfl := Option.some.inj H
          go_wp2
          go_ret
          exact ⟨_, by first | rfl | (simp [errW_none, errW_some] <;> rfl) | (simp [*, errW_none, errW_some] <;> rfl), by (with_reducible repeat (first | apply Kd.R_alloc | apply Kd.R_drewN | apply Kd.R_drew)); exact HO_4.out, by repeat (first | (with_reducible first | exact HB.out | apply below_alloc | apply pw_below_drewN | apply below_drew1) | exact HB.out)⟩
      · rw [if_neg c4] at H
        have c4b0 : decide (x5_1 < (l0.length : Int)) = false := decide_eq_false c4
        clear c4
        obtain rfl := Option.some.inj H
        go_wp2
        go_ret
        exact ⟨_, by first | rfl | (simp [errW_none, errW_some] <;> rfl) | (simp [*, errW_none, errW_some] <;> rfl), by (with_reducible repeat (first | apply Kd.R_alloc | apply Kd.R_drewN | apply Kd.R_drew)); exact HO_4.out, by repeat (first | (with_reducible first | exact HB.out | apply below_alloc | apply pw_below_drewN | apply below_drew1) | exact HB.out)⟩

/-! ### strings_Builder_WriteString: function 11 (a contract of ours) -/
theorem strings_Builder_WriteString.calls {d : Kd Int} {w w0 : World} {base : Nat} {ok' : Nat → Prop} {v : Value} {x : List Int} (ok : Nat → Prop) (hok : ∀ k, base ≤ k → ok k) (s : ByteArray) (hl : x.length + s.size ≤ 140737488355328) (h : Kd.B d 47 w base ok' v x) (hb : Below base w0 w) (hs : base ≤ w.heap.size) :
    Calls Try.prog 11 #[v, .string s] w fun e w' => e = .returned (.tuple #[.int .i64 s.size, .nilIface]) ∧ Kd.B d 47 w' base ok v (x ++ bytesOf s) ∧ Below base w0 w' ∧ Kd.Wrote 47 v w w' := by
  obtain ⟨b, rfl, hB⟩ := Kd.B_open h
  refine (Try.Builder_WriteString_k base b _ s w hB (by simpa using hl) hs).mono ?_
  rintro e w' ⟨rfl, h1, h2, h3⟩
  exact ⟨rfl, Kd.B_closeWriteString h hok s h1, hb.trans h2, Kd.wrote_of h rfl h3⟩

/-! ### strings_Join: function 12 (a contract of ours) -/
def strings_Join.f (l0 : List ByteArray) (a1 : ByteArray) : Option ByteArray := if l0.length ≤ 140737488355328 then (if (Lib.join (l0.map (·.data.toList)) a1.data.toList).length ≤ 140737488355328 then some ⟨(Lib.join (l0.map (·.data.toList)) a1.data.toList).toArray⟩ else none) else none
theorem strings_Join.calls (A0 : Option Addr) (c0 : Nat) (l0 : List ByteArray) (a1 : ByteArray) (r : ByteArray) (w : World) (hr0 : Kd.C Kd.string w A0 l0.length l0) (hc0 : l0.length ≤ c0) (h : strings_Join.f l0 a1 = some r) :
    Calls Try.prog 12 #[.slice A0 l0.length c0, .string a1] w fun e w' => e = .returned (.string r) ∧ Below w.heap.size w w' := by
  unfold strings_Join.f at h
  by_cases h1 : l0.length ≤ 140737488355328
  · rw [if_pos h1] at h
    by_cases h2 : (Lib.join (l0.map (·.data.toList)) a1.data.toList).length ≤ 140737488355328
    · rw [if_pos h2] at h
      injection h with h
      subst h
      rcases Kd.cells_of_strs hr0 with rfl | ⟨bk, o, rfl, hbk, hcells⟩
      · refine (Try.strings_Join_none A0 c0 a1 w).mono ?_
        rintro e w' ⟨rfl, rfl⟩
        exact ⟨rfl, Below.refl _ _⟩
      · exact Try.strings_Join bk o c0 l0 a1 w hcells hbk h1 hc0 h2
    · rw [if_neg h2] at h
      cases h
  · rw [if_neg h1] at h
    cases h

/-! ### strings_Builder_String: function 13 (a contract of ours) -/
theorem strings_Builder_String.calls {d : Kd Int} {w w0 : World} {base : Nat} {ok' : Nat → Prop} {v : Value} {x : List Int} (ok : Nat → Prop) (hok : ∀ k, base ≤ k → ok k)  (h : Kd.B d 47 w base ok' v x) (hb : Below base w0 w) (hs : base ≤ w.heap.size) :
    Calls Try.prog 13 #[v] w fun e w' => e = .returned (.string (strOfNums x)) ∧ Kd.B d 47 w' base ok v (x) ∧ Below base w0 w' ∧ Kd.Wrote 47 v w w' := by
  obtain ⟨b, rfl, hB⟩ := Kd.B_open h
  refine (Try.Builder_String_any_k base b _ w (Kd.B_bytes h hB) hs).mono ?_
  rintro e w' ⟨rfl, h1, h2, h3⟩
  exact ⟨rfl, Kd.B_closeString h hok h1, hb.trans h2, Kd.wrote_of h rfl h3⟩

end Go.Proofs.Ytjieelpkdhfcgaa.E
