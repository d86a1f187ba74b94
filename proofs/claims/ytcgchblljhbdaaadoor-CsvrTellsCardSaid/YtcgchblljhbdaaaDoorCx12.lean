-- Printed by this session's own program (wip/xprint) out of the translation. Lean checks it.
import Derived.Test.YtcgchblljhbdaaaDoorCx0
import Derived.Test.YtcgchblljhbdaaaDoorCx2
import Derived.Test.YtcgchblljhbdaaaDoorCx10
import Derived.Test.YtcgchblljhbdaaaDoorCx11
namespace Go.Proofs.YtcgchblljhbdaaaDoor.C
open Go.Proofs.YtcgchblljhbdaaaDoor
open Go.RowKit Go.Proofs.YtcgchblljhbdaaaDoorW.PrintWords Go.Proofs.YtcgchblljhbdaaaDoorW.PrintLast Go.Proofs.YtcgchblljhbdaaaDoorW.PrintMore
attribute [local go_sem] max2_int min2_int max_two min_two max_three min_three max_four min_four   -- for this text's walks alone
set_option linter.unusedVariables false
set_option linter.unusedSimpArgs false

attribute [local go_sem high] eqA59
/-! ### gleberef7_Records: function 36 -/
mutual
def gleberef7_Records.l0 : Nat → List Int → List (List (S59)) → List (S59) → Int → Option ((List (List (S59))) × Int × Int)
 | 0, _, _, _, _ => none
 | k + 1, x0, x6, x7, x8 => if x8 < (x0.length : Int) then (gleberef7_Records.j1 k x0 x6 x7 x8 true) else (gleberef7_Records.j1 k x0 x6 x7 x8 (decide ((x7.length : Int) > 0)))
def gleberef7_Records.j1 : Nat → List Int → List (List (S59)) → List (S59) → Int → Bool → Option ((List (List (S59))) × Int × Int)
 | 0, _, _, _, _, _ => none
 | k + 1, x0, x6, x7, x8, x27 => if x27 = true then ((gleberef7_field.f k x0 x8).bind fun bt374 => (if bt374.2.2.2.2.1 = 0 then (if x7.length < 4398046511104 then ((some (x7 ++ [(⟨bt374.1, bt374.2.1, bt374.2.2.1⟩ : S59)] : List (S59))).bind fun y382 => (if bt374.2.2.2.1 < (x0.length : Int) then (if 0 ≤ bt374.2.2.2.1 then (gleberef7_Records.j2 k x0 x6 y382 bt374.2.2.2.1 ((rd x0 bt374.2.2.2.1) == 44)) else (none)) else (gleberef7_Records.j2 k x0 x6 y382 bt374.2.2.2.1 false))) else (none)) else (some (([] : List (List (S59))), bt374.2.2.2.2.1, bt374.2.2.2.2.2)))) else (some (x6, 0, 0))
def gleberef7_Records.j2 : Nat → List Int → List (List (S59)) → List (S59) → Int → Bool → Option ((List (List (S59))) × Int × Int)
 | 0, _, _, _, _, _ => none
 | k + 1, x0, x6, x7, x10, x53 => if x53 = true then (gleberef7_Records.l0 k x0 x6 x7 (wrap64 (x10 + 1))) else (if x6.length < 5864062014805 then ((some (x6 ++ [x7] : List (List (S59)))).bind fun y386 => (if x10 < (x0.length : Int) then (if 0 ≤ x10 then (gleberef7_Records.j3 k x0 y386 ([] : List (S59)) x10 ((rd x0 x10) == 13)) else (none)) else (gleberef7_Records.j3 k x0 y386 ([] : List (S59)) x10 false))) else (none))
def gleberef7_Records.j3 : Nat → List Int → List (List (S59)) → List (S59) → Int → Bool → Option ((List (List (S59))) × Int × Int)
 | 0, _, _, _, _, _ => none
 | k + 1, x0, x6, x7, x10, x70 => if x70 = true then (if (wrap64 (x10 + 1)) ≥ (x0.length : Int) then ((gleberef7_syntax.f (wrap64 (x10 + 1))).bind fun bt390 => (some (([] : List (List (S59))), bt390.1, bt390.2))) else (if 0 ≤ (wrap64 (x10 + 1)) then (if (wrap64 (x10 + 1)) < (x0.length : Int) then (if (rd x0 (wrap64 (x10 + 1))) = 10 then (gleberef7_Records.l0 k x0 x6 x7 (wrap64 ((wrap64 (x10 + 1)) + 1))) else ((gleberef7_syntax.f (wrap64 (x10 + 1))).bind fun bt393 => (some (([] : List (List (S59))), bt393.1, bt393.2)))) else (none)) else (none))) else (gleberef7_Records.l0 k x0 x6 x7 (wrap64 (x10 + 1)))
end
def gleberef7_Records.f (k : Nat) (l0 : List Int) : Option ((List (List (S59))) × Int × Int) := (gleberef7_Long.f l0).bind fun bt370 => (if bt370.2.2 = true then (some (([] : List (List (S59))), bt370.1, bt370.2.1)) else (gleberef7_Records.l0 k l0 ([] : List (List (S59))) ([] : List (S59)) 0))
theorem gleberef7_Records.mono_l : ∀ k, (∀ y0 y1 y2 y3, LeO (gleberef7_Records.l0 k y0 y1 y2 y3) (gleberef7_Records.l0 (k + 1) y0 y1 y2 y3)) ∧ (∀ y0 y1 y2 y3 y4, LeO (gleberef7_Records.j1 k y0 y1 y2 y3 y4) (gleberef7_Records.j1 (k + 1) y0 y1 y2 y3 y4)) ∧ (∀ y0 y1 y2 y3 y4, LeO (gleberef7_Records.j2 k y0 y1 y2 y3 y4) (gleberef7_Records.j2 (k + 1) y0 y1 y2 y3 y4)) ∧ (∀ y0 y1 y2 y3 y4, LeO (gleberef7_Records.j3 k y0 y1 y2 y3 y4) (gleberef7_Records.j3 (k + 1) y0 y1 y2 y3 y4))
 | 0 => ⟨fun _ _ _ _ r h => by simp [gleberef7_Records.l0] at h, fun _ _ _ _ _ r h => by simp [gleberef7_Records.j1] at h, fun _ _ _ _ _ r h => by simp [gleberef7_Records.j2] at h, fun _ _ _ _ _ r h => by simp [gleberef7_Records.j3] at h⟩
 | k + 1 => by
  obtain ⟨ih0, ih1, ih2, ih3⟩ := gleberef7_Records.mono_l k
  refine ⟨?_, ?_, ?_, ?_⟩
  ·intro y0 y1 y2 y3
   unfold gleberef7_Records.l0
   repeat' first
   | (with_reducible first | exact ih0 _ _ _ _ | exact ih1 _ _ _ _ _ | exact ih2 _ _ _ _ _ | exact ih3 _ _ _ _ _ | exact gleberef7_field.mono _ _ _ | exact LeO.refl _ | exact LeO.none _ | refine LeO.ite ?_ ?_ | refine LeO.bind ?_ (fun _ => ?_))
   | exact ih0 _ _ _ _
   | exact ih1 _ _ _ _ _
   | exact ih2 _ _ _ _ _
   | exact ih3 _ _ _ _ _
   | exact gleberef7_field.mono _ _ _
   | exact LeO.none _
   | refine LeO.ite ?_ ?_
   | refine LeO.bind ?_ (fun _ => ?_)
  ·intro y0 y1 y2 y3 y4
   unfold gleberef7_Records.j1
   repeat' first
   | (with_reducible first | exact ih0 _ _ _ _ | exact ih1 _ _ _ _ _ | exact ih2 _ _ _ _ _ | exact ih3 _ _ _ _ _ | exact gleberef7_field.mono _ _ _ | exact LeO.refl _ | exact LeO.none _ | refine LeO.ite ?_ ?_ | refine LeO.bind ?_ (fun _ => ?_))
   | exact ih0 _ _ _ _
   | exact ih1 _ _ _ _ _
   | exact ih2 _ _ _ _ _
   | exact ih3 _ _ _ _ _
   | exact gleberef7_field.mono _ _ _
   | exact LeO.none _
   | refine LeO.ite ?_ ?_
   | refine LeO.bind ?_ (fun _ => ?_)
  ·intro y0 y1 y2 y3 y4
   unfold gleberef7_Records.j2
   repeat' first
   | (with_reducible first | exact ih0 _ _ _ _ | exact ih1 _ _ _ _ _ | exact ih2 _ _ _ _ _ | exact ih3 _ _ _ _ _ | exact gleberef7_field.mono _ _ _ | exact LeO.refl _ | exact LeO.none _ | refine LeO.ite ?_ ?_ | refine LeO.bind ?_ (fun _ => ?_))
   | exact ih0 _ _ _ _
   | exact ih1 _ _ _ _ _
   | exact ih2 _ _ _ _ _
   | exact ih3 _ _ _ _ _
   | exact gleberef7_field.mono _ _ _
   | exact LeO.none _
   | refine LeO.ite ?_ ?_
   | refine LeO.bind ?_ (fun _ => ?_)
  ·intro y0 y1 y2 y3 y4
   unfold gleberef7_Records.j3
   repeat' first
   | (with_reducible first | exact ih0 _ _ _ _ | exact ih1 _ _ _ _ _ | exact ih2 _ _ _ _ _ | exact ih3 _ _ _ _ _ | exact gleberef7_field.mono _ _ _ | exact LeO.refl _ | exact LeO.none _ | refine LeO.ite ?_ ?_ | refine LeO.bind ?_ (fun _ => ?_))
   | exact ih0 _ _ _ _
   | exact ih1 _ _ _ _ _
   | exact ih2 _ _ _ _ _
   | exact ih3 _ _ _ _ _
   | exact gleberef7_field.mono _ _ _
   | exact LeO.none _
   | refine LeO.ite ?_ ?_
   | refine LeO.bind ?_ (fun _ => ?_)
theorem gleberef7_Records.mono : ∀ a0 k, LeO (gleberef7_Records.f k a0) (gleberef7_Records.f (k + 1) a0) := by
 intro a0 k
 obtain ⟨ih0, ih1, ih2, ih3⟩ := gleberef7_Records.mono_l k
 unfold gleberef7_Records.f
 repeat' first
   | (with_reducible first | exact ih0 _ _ _ _ | exact ih1 _ _ _ _ _ | exact ih2 _ _ _ _ _ | exact ih3 _ _ _ _ _ | exact gleberef7_field.mono _ _ _ | exact LeO.refl _ | exact LeO.none _ | refine LeO.ite ?_ ?_ | refine LeO.bind ?_ (fun _ => ?_))
   | exact ih0 _ _ _ _
   | exact ih1 _ _ _ _ _
   | exact ih2 _ _ _ _ _
   | exact ih3 _ _ _ _ _
   | exact gleberef7_field.mono _ _ _
   | exact LeO.none _
   | refine LeO.ite ?_ ?_
   | refine LeO.bind ?_ (fun _ => ?_)
set_option maxHeartbeats 8000000 in
set_option maxRecDepth 100000 in
theorem gleberef7_Records.calls (k : Nat) (A0 : Option Addr) (c0 : Nat) (l0 : List Int) (r1 : List (List (S59))) (r2 : Int) (r3 : Int) (w : World) (hr0 : Kd.C (Kd.int .u8) w A0 l0.length l0) (hc0 : l0.length ≤ c0) (h : gleberef7_Records.f k l0 = some (r1, r2, r3)) :
  Calls Tryd.prog 36 #[.slice A0 l0.length c0] w fun e w' => ∃ v0_ : Value, e = .returned (.tuple #[v0_, .agg #[.int .i64 r2, .int .i64 r3]]) ∧ Kd.S (Kd.slice 59 k59) 57 w' w.heap.size (fun _ => True) v0_ r1 ∧ Below w.heap.size w w' := by
 have hu54 := Tryd.underlying54
 have hu59 := Tryd.underlying59
 have HR0 := Aside0.mk hr0
 have HC0 := Aside0.mk hc0
 clear hr0 hc0
 have HB := Aside0.mk (Below.refl w.heap.size w)
 have H : ((gleberef7_Long.f l0).bind fun bt370 => (if bt370.2.2 = true then (some (([] : List (List (S59))), bt370.1, bt370.2.1)) else (gleberef7_Records.l0 k l0 ([] : List (List (S59))) ([] : List (S59)) 0))) = some (r1, r2, r3) := h
 clear h
 obtain ⟨⟨t370, t371, t372⟩, A20, H⟩ := bS H
 dsimp only at H
 have A2 := Aside0.mk A20
 clear A20
 by_cases c3 : t372 = true
 ·subst c3
  replace H := iT H
  simp only [Option.some.injEq, Prod.mk.injEq] at H
  obtain ⟨rfl, rfl, rfl⟩ := H
  go_enter Tryd.func36, Tryd.ntmps36
  try go_wp2_with (first | ((with_reducible refine gate_dst (N := 3) rfl ?_); (try (refine gate_guard (by rfl) ?_; dsimp only)); refine bE (N := 3) (cs := #[.int .i64 0, .int .i64 0]) (t := 54) (h := ?_); intro gb369 hg w4 hbox hb; have BK369 := Aside0.mk (hbox); have GW369 := Aside0.mk (gE hg (fW HB.out)); have GE369 := GW369; replace HB := Aside0.mk (below_step (fW HB.out) hb); clear hb hbox hg) | ((with_reducible refine gate_callee (f := 58) rfl ?_); refine goesL_ (some 14) rfl rfl Tryd.func58 (by kernel_rfl) rfl #[.slice A0 l0.length c0] rfl oA ?_; (with_reducible refine (gleberef7_Long.calls _ _ l0 t370 t371 true _ ?side1 ?side2 A2.out).mono ?_); (case side1 => exact fC (Kd.C_below HR0.out HB.out)); (case side2 => exact HC0.out); rintro e w5 ⟨rfl, hb⟩; refine ⟨_, rfl, ?_⟩; replace BK369 := Aside0.mk (blk_below (fB BK369.out) hb); replace HB := Aside0.mk (below_step (fW HB.out) hb); (try clear hb); (try clear hb2); (try clear hk); (try clear hi)) | ((with_reducible refine gate_dst (N := 4) rfl ?_); (try (refine gate_guard (by rfl) ?_; dsimp only)); refine bE (N := 4) (cs := #[.int .i64 0, .int .i64 0]) (t := 54) (h := ?_); intro gb373 hg w6 hbox hb; have BK373 := Aside0.mk (hbox); have GW373 := Aside0.mk (gE hg (fW HB.out)); have GE373 := GW373; replace HB := Aside0.mk (below_step (fW HB.out) hb); have NB369_373 := Aside0.mk ((by rw [hg]; exact Nat.ne_of_lt (blk_lt (g := gb369) (o := .cells #[.int .i64 0, .int .i64 0] 54 (0, 0)) (fB BK369.out)) : gb369 ≠ gb373)); have NB373_369 := Aside0.mk ((by rw [hg]; exact Nat.ne_of_gt (blk_lt (g := gb369) (o := .cells #[.int .i64 0, .int .i64 0] 54 (0, 0)) (fB BK369.out)) : gb373 ≠ gb369)); replace BK369 := Aside0.mk (blk_below (fB BK369.out) hb); clear hb hbox hg; have hnb7 := NB373_369.out; have hnc7 := NB369_373.out; have hcz8_0 : w6.cell? ⟨gb373, 0, none⟩ = some (.int .i64 0) := (blk_cell BK373.out 0).trans rfl; have hcz8_1 : w6.cell? ⟨gb373, 1, none⟩ = some (.int .i64 0) := (blk_cell BK373.out 1).trans rfl; have hfz8_0 := blk_frozen BK373.out 0; have hfz8_1 := blk_frozen BK373.out 1))
  have n0_ : Aside0 (((w6.setCell ⟨gb373, 0, none⟩ (.int .i64 t370)).setCell ⟨gb373, 1, none⟩ (.int .i64 t371)).heap[gb369]? = some (.cells #[.int .i64 0, .int .i64 0] 54 (0, 0))) := ⟨by refine fB (h := ?_); refine blk_far ?_ NB369_373.out _; refine fB (h := ?_); refine blk_far ?_ NB369_373.out _; refine fB (h := ?_); exact BK369.out⟩
  have n1_ : Aside0 (((w6.setCell ⟨gb373, 0, none⟩ (.int .i64 t370)).setCell ⟨gb373, 1, none⟩ (.int .i64 t371)).heap[gb373]? = some (.cells #[.int .i64 t370, .int .i64 t371] 54 (0, 0))) := ⟨by refine fB (h := ?_); refine blk_put (cs := #[.int .i64 t370, .int .i64 0]) ?_ 1 _ rfl; refine fB (h := ?_); refine blk_put (cs := #[.int .i64 0, .int .i64 0]) ?_ 0 _ rfl; refine fB (h := ?_); exact BK373.out⟩
  have n2_ : Aside0 (Below w.heap.size w ((w6.setCell ⟨gb373, 0, none⟩ (.int .i64 t370)).setCell ⟨gb373, 1, none⟩ (.int .i64 t371))) := ⟨fW HB.out⟩
  (try clear BK369)
  (try clear BK373)
  (try clear HB)
  generalize ((w6.setCell ⟨gb373, 0, none⟩ (.int .i64 t370)).setCell ⟨gb373, 1, none⟩ (.int .i64 t371)) = w9 at n0_ n1_ n2_ ⊢
  have BK369 := n0_
  have BK373 := n1_
  have HB := n2_
  clear n0_ n1_ n2_
  have n0_ := Aside0.mk (blk_drew BK369.out)
  have n1_ := Aside0.mk (blk_drew BK373.out)
  have n2_ := Aside0.mk (below_drew1 HB.out)
  clear BK369
  clear BK373
  clear HB
  have BK369 := n0_
  have BK373 := n1_
  have HB := n2_
  clear n0_ n1_ n2_
  refine start_ (n := 3) (S := fun w' => w'.cell? ⟨gb373, 0, none⟩ = some (.int .i64 t370) ∧ w'.cell? ⟨gb373, 1, none⟩ = some (.int .i64 t371)) (ds := []) #[false, false, false] (by kernel_rfl) rfl rfl ⟨(blk_cell BK373.out 0).trans rfl, (blk_cell BK373.out 1).trans rfl⟩ (fun hHeld => ?_)
  generalize w9.drew = w10 at BK369 BK373 HB hHeld ⊢
  refine pure_ (i := 1) (N := some 2) (v := ?_) (a' := ?_) #[false, true, false] rfl rfl (by kernel_rfl) (fun _ _ _ h => h) (Or.inl ⟨by rfl, ?_⟩) ?_ ?_
  rotate_left
  ·intro w'
   go_simp
   with_reducible rfl
  rotate_left
  ·refine sP (h := ?_)
   rfl
  refine take_ (i := 0) (N := some 18) (v := ?_) (a' := ?_) #[true, true, false] rfl rfl (by kernel_rfl) (fun _ _ _ h => h) (Or.inl ⟨by rfl, ?_⟩) hHeld ?_ ?_
  rotate_left
  ·rintro w' ⟨s0, s1⟩
   go_simp
   with_reducible rfl
  rotate_left
  ·refine sP (h := ?_)
   rfl
  refine one_ (i := 2) (N := none) #[true, true, true] rfl rfl (by kernel_rfl) (by decide) (fun K hK => ?_)
  have hs11 : w10.cell? ⟨gb369, 0, none⟩ = some (.int .i64 0) := (blk_cell BK369.out 0).trans rfl
  have hfs11 := blk_frozen BK369.out 0
  have hns11_1 := NB373_369.out
  have hms11_1 := NB369_373.out
  have hs12 : w10.cell? ⟨gb369, 1, none⟩ = some (.int .i64 0) := (blk_cell BK369.out 1).trans rfl
  have hfs12 := blk_frozen BK369.out 1
  have hns12_1 := NB373_369.out
  have hms12_1 := NB369_373.out
  refine skip_ (w1 := ?_) (by rfl) rfl ?_ ?_
  rotate_left
  ·go_simp
   rfl
  refine hK.out _ _ ⟨((cell_far (p := ⟨gb369, _, none⟩) NB373_369.out _).trans (((cell_far (p := ⟨gb369, _, none⟩) NB373_369.out _).trans (hHeld.1)))), ((cell_far (p := ⟨gb369, _, none⟩) NB373_369.out _).trans (((cell_far (p := ⟨gb369, _, none⟩) NB373_369.out _).trans (hHeld.2))))⟩ (fun hHeld => ?_)
  clear hK K
  refine done_ (by kernel_rfl) ?_
  try go_wp2
  refine bodyPost_ret (results_tc rfl _ _ gb369 54 #[.int .i64 t370, .int .i64 t371] (0, 0) _ rfl (by refine fB (h := ?_); refine blk_put (cs := #[.int .i64 t370, .int .i64 0]) ?_ 1 _ rfl; refine fB (h := ?_); refine blk_put (cs := #[.int .i64 0, .int .i64 0]) ?_ 0 _ rfl; refine fB (h := ?_); exact BK369.out) Tryd.underlying54 rfl (by kernel_rfl)) rfl ?_
  exact ⟨_, oE, by first | exact Kd.S_nil _ _ _ _ _ | exact Kd.N_nil _ _ _ _ _ | exact Kd.V_nil _ _ _ _ _ | exact Kd.Q_nil _ _ _ _ _ | exact Kd.R_nil _ _ _ _ _, fW HB.out⟩
 ·replace c3 := Bool.eq_false_iff.mpr c3
  subst c3
  replace H := iF H
  have H' := Aside0.mk H
  clear H
  go_enter Tryd.func36, Tryd.ntmps36
  go_wp2_with (first | ((with_reducible refine gate_dst (N := 3) rfl ?_); (try (refine gate_guard (by rfl) ?_; dsimp only)); refine bE (N := 3) (cs := #[.int .i64 0, .int .i64 0]) (t := 54) (h := ?_); intro gb369 hg w13 hbox hb; have BK369 := Aside0.mk (hbox); have GW369 := Aside0.mk (gE hg (fW HB.out)); have GE369 := GW369; replace HB := Aside0.mk (below_step (fW HB.out) hb); clear hb hbox hg) | ((with_reducible refine gate_callee (f := 58) rfl ?_); refine goesL_ (some 14) rfl rfl Tryd.func58 (by kernel_rfl) rfl #[.slice A0 l0.length c0] rfl oA ?_; (with_reducible refine (gleberef7_Long.calls _ _ l0 t370 t371 false _ ?side1 ?side2 A2.out).mono ?_); (case side1 => exact fC (Kd.C_below HR0.out HB.out)); (case side2 => exact HC0.out); rintro e w14 ⟨rfl, hb⟩; refine ⟨_, rfl, ?_⟩; replace BK369 := Aside0.mk (blk_below (fB BK369.out) hb); replace HB := Aside0.mk (below_step (fW HB.out) hb); (try clear hb); (try clear hb2); (try clear hk); (try clear hi)) | ((with_reducible refine gate_dst (N := 4) rfl ?_); (try (refine gate_guard (by rfl) ?_; dsimp only)); refine bE (N := 4) (cs := #[.int .i64 0, .int .i64 0]) (t := 54) (h := ?_); intro gb373 hg w15 hbox hb; have BK373 := Aside0.mk (hbox); have GW373 := Aside0.mk (gE hg (fW HB.out)); have GE373 := GW373; replace HB := Aside0.mk (below_step (fW HB.out) hb); have NB369_373 := Aside0.mk ((by rw [hg]; exact Nat.ne_of_lt (blk_lt (g := gb369) (o := .cells #[.int .i64 0, .int .i64 0] 54 (0, 0)) (fB BK369.out)) : gb369 ≠ gb373)); have NB373_369 := Aside0.mk ((by rw [hg]; exact Nat.ne_of_gt (blk_lt (g := gb369) (o := .cells #[.int .i64 0, .int .i64 0] 54 (0, 0)) (fB BK369.out)) : gb373 ≠ gb369)); replace BK369 := Aside0.mk (blk_below (fB BK369.out) hb); clear hb hbox hg; have hnb16 := NB373_369.out; have hnc16 := NB369_373.out; have hcz17_0 : w15.cell? ⟨gb373, 0, none⟩ = some (.int .i64 0) := (blk_cell BK373.out 0).trans rfl; have hcz17_1 : w15.cell? ⟨gb373, 1, none⟩ = some (.int .i64 0) := (blk_cell BK373.out 1).trans rfl; have hfz17_0 := blk_frozen BK373.out 0; have hfz17_1 := blk_frozen BK373.out 1))
  go_loopg [6, 7, 8] k (fun kq v6 v7 v8 w' => ∃ (x6_1 : List (List (S59))) (x7_1 : List (S59)) (x8_1 : Int) (x370000_1 : Int) (x370001_1 : Int), v8 = .int .i64 x8_1 ∧ Aside0 (gleberef7_Records.l0 kq l0 x6_1 x7_1 x8_1 = some (r1, r2, r3)) ∧ Aside0 (kq ≤ k) ∧ Aside0 (Kd.S (Kd.slice 59 k59) 57 w' w.heap.size (fun k_ => some k_ ≠ (v7 : Value).ownBlock) v6 x6_1) ∧ Aside0 (Kd.R k59 59 w' w.heap.size (fun _ => True) v7 x7_1) ∧ Aside0 (w'.heap[gb369]? = some (.cells #[.int .i64 x370000_1, .int .i64 x370001_1] 54 (0, 0))) ∧ Aside0 (w'.heap[gb373]? = some (.cells #[.int .i64 t370, .int .i64 t371] 54 (0, 0))) ∧ Aside0 (Below w.heap.size w w'))
  case atStart => exact ⟨(([] : List (List (S59)))), (([] : List (S59))), (0), (0), (0), oR, H', ⟨Nat.le_refl _⟩, ⟨by first | exact Kd.S_nil _ _ _ _ _ | exact Kd.N_nil _ _ _ _ _ | exact Kd.V_nil _ _ _ _ _ | exact Kd.Q_nil _ _ _ _ _ | exact Kd.R_nil _ _ _ _ _⟩, ⟨by first | exact Kd.R_nil _ _ _ _ _ | exact Kd.N_nil _ _ _ _ _ | exact Kd.V_nil _ _ _ _ _ | exact Kd.Q_nil _ _ _ _ _ | exact Kd.S_nil _ _ _ _ _⟩, ⟨by refine fB (h := ?_); refine blk_far ?_ NB369_373.out _; refine fB (h := ?_); refine blk_far ?_ NB369_373.out _; refine fB (h := ?_); exact BK369.out⟩, ⟨by refine fB (h := ?_); refine blk_put (cs := #[.int .i64 t370, .int .i64 0]) ?_ 1 _ rfl; refine fB (h := ?_); refine blk_put (cs := #[.int .i64 0, .int .i64 0]) ?_ 0 _ rfl; refine fB (h := ?_); exact BK373.out⟩, ⟨fW HB.out⟩⟩
  case round =>
   clear H'
   try clear c3; try clear hcz17_0; try clear hcz17_1; try clear hcz8_0; try clear hcz8_1; try clear hfz17_0; try clear hfz17_1; try clear hfz8_0; try clear hfz8_1
   obtain ⟨x6_1, x7_1, x8_1, x370000_1, x370001_1, rfl, HA, HK1, HO_6, HO_7, BK369, BK373, HB⟩ := hrel
   cases gk with
   | zero => exact absurd HA.out (by simp [gleberef7_Records.l0])
   | succ k1 =>
    have H := HA.out
    clear HA
    simp only [gleberef7_Records.l0] at H
    have HC18 := Aside0.mk H
    clear H
    go_upto_region 7 with (fail)
    go_cut [27] (fun v27 wc => ∃ (kq : Nat) (x27_17 : Bool), v27 = .bool x27_17 ∧ Aside0 (gleberef7_Records.j1 kq l0 x6_1 x7_1 x8_1 x27_17 = some (r1, r2, r3)) ∧ Aside0 (kq ≤ k1) ∧ Aside0 (Kd.S (Kd.slice 59 k59) 57 wc w.heap.size (fun k_ => some k_ ≠ (u7 : Value).ownBlock) u6 x6_1) ∧ Aside0 (Kd.R k59 59 wc w.heap.size (fun _ => True) u7 x7_1) ∧ Aside0 (wc.heap[gb369]? = some (.cells #[.int .i64 x370000_1, .int .i64 x370001_1] 54 (0, 0))) ∧ Aside0 (wc.heap[gb373]? = some (.cells #[.int .i64 t370, .int .i64 t371] 54 (0, 0))) ∧ Aside0 (Below w.heap.size w wc))
    case first =>
     have H := HC18.out
     clear HC18
     by_cases c19 : x8_1 < (l0.length : Int)
     ·rw [if_pos c19] at H
      have c19b0 := decide_eq_true c19
      clear c19
      (first | rw [c19b0] | (simp only [i64_w, i32_w]; rw [c19b0]) | skip)
      have H' := Aside0.mk H
      clear H
      go_wp2
      go_meet
      case rel => exact ⟨_, (true), oR, H', ⟨by have := HK1.out; first | omega | exact Nat.le_refl _⟩, ⟨fS HO_6.out⟩, ⟨fR HO_7.out⟩, ⟨fB BK369.out⟩, ⟨fB BK373.out⟩, ⟨fW HB.out⟩⟩
     ·rw [if_neg c19] at H
      have c19b0 := decide_eq_false c19
      clear c19
      (first | rw [c19b0] | (simp only [i64_w, i32_w]; rw [c19b0]) | skip)
      have H' := Aside0.mk H
      clear H
      obtain ⟨Ao20, co20, eo20⟩ := Kd.R_slice HO_7.out
      subst eo20
      go_wp2
      go_meet
      case rel => exact ⟨_, (decide ((x7_1.length : Int) > 0)), oR, H', ⟨by have := HK1.out; first | omega | exact Nat.le_refl _⟩, ⟨fS HO_6.out⟩, ⟨fR HO_7.out⟩, ⟨fB BK369.out⟩, ⟨fB BK373.out⟩, ⟨fW HB.out⟩⟩
    case rest =>
     clear HC18
     try clear c3; try clear c19; try clear c19b0; try clear hcz17_0; try clear hcz17_1; try clear hcz8_0; try clear hcz8_1; try clear hfz17_0; try clear hfz17_1; try clear hfz8_0; try clear hfz8_1
     obtain ⟨kq, x27_17, rfl, HA, HJ17, HO_6, HO_7, BK369, BK373, HB⟩ := hcut
     cases kq with
     | zero => exact absurd HA.out (by simp [gleberef7_Records.j1])
     | succ kj17 =>
      have H := HA.out
      clear HA
      simp only [gleberef7_Records.j1] at H
      by_cases c21 : x27_17 = true
      ·subst c21
       replace H := iT H
       obtain ⟨⟨t374, t375, t376, t377, t378, t379⟩, A220, H⟩ := bS H
       dsimp only at H
       have A22 := Aside0.mk A220
       clear A220
       by_cases c23 : t378 = 0
       ·rw [if_pos c23] at H
        have c23b0 := qT c23
        have c23b1 := nF c23
        clear c23
        obtain ⟨c24, H⟩ := eT H
        have LMc24 := Aside0.mk c24
        clear c24
        obtain ⟨y382, hy382⟩ : ∃ y_ : List (S59), y_ = (x7_1 ++ [(⟨t374, t375, t376⟩ : S59)]) := ⟨_, rfl⟩
        replace H : (if t377 < (l0.length : Int) then (if 0 ≤ t377 then (gleberef7_Records.j2 kj17 l0 x6_1 y382 t377 ((rd l0 t377) == 44)) else (none)) else (gleberef7_Records.j2 kj17 l0 x6_1 y382 t377 false)) = some (r1, r2, r3) := by first | (rw [hy382]; with_reducible exact H) | (have H2_ := (Option.bind_some _ _).symm.trans H; rw [hy382]; with_reducible exact H2_) | (have H2_ := (Option.bind_some _ _).symm.trans H; with_reducible exact H2_) | with_reducible exact H | (rw [hy382]; exact H) | exact H
        have Ny382 := Aside0.mk hy382
        clear hy382
        have HC25 := Aside0.mk H
        clear H
        go_upto_region 12 with (first | ((with_reducible refine gate_callee (f := 59) rfl ?_); refine goesL_ (some 31) rfl rfl Tryd.func59 (by kernel_rfl) rfl #[.slice A0 l0.length c0, .int .i64 x8_1] rfl oA ?_; (with_reducible refine (gleberef7_field.calls kj17 _ _ l0 x8_1 t374 t375 t376 t377 t378 t379 _ ?side1 ?side2 A22.out).mono ?_); (case side1 => exact fC (Kd.C_below HR0.out HB.out)); (case side2 => exact HC0.out); rintro e w26 ⟨rfl, hb⟩; refine ⟨_, rfl, ?_⟩; replace HO_6 := Aside0.mk (Kd.S_below (fS HO_6.out) hb); replace HO_7 := Aside0.mk (Kd.R_below (fR HO_7.out) hb); replace BK369 := Aside0.mk (blk_below (fB BK369.out) hb); replace BK373 := Aside0.mk (blk_below (fB BK373.out) hb); replace HB := Aside0.mk (below_step (fW HB.out) hb); (try clear hb); (try clear hb2); (try clear hk); (try clear hi)) | ((with_reducible refine gate_dst (N := 9) rfl ?_); (try (refine gate_guard (by rfl) ?_; dsimp only)); refine bE (N := 9) (cs := #[.int .i64 0, .string (⟨#[]⟩ : ByteArray), .int .i64 0]) (t := 59) (h := ?_); intro gb380 hg w27 hbox hb; replace HO_6 := Aside0.mk (Kd.S_below (Kd.S_elderB (fS HO_6.out) gb380 (Nat.le_of_eq hg.symm)) hb); replace HO_7 := Aside0.mk (Kd.R_below (Kd.R_elderB (fR HO_7.out) gb380 (Nat.le_of_eq hg.symm)) hb); have BK380 := Aside0.mk (hbox); have GW380 := Aside0.mk (gE hg (fW HB.out)); have GE380 := GW380; replace HB := Aside0.mk (below_step (fW HB.out) hb); have NB369_380 := Aside0.mk ((by rw [hg]; exact Nat.ne_of_lt (blk_lt (g := gb369) (o := .cells #[.int .i64 x370000_1, .int .i64 x370001_1] 54 (0, 0)) (fB BK369.out)) : gb369 ≠ gb380)); have NB380_369 := Aside0.mk ((by rw [hg]; exact Nat.ne_of_gt (blk_lt (g := gb369) (o := .cells #[.int .i64 x370000_1, .int .i64 x370001_1] 54 (0, 0)) (fB BK369.out)) : gb380 ≠ gb369)); replace BK369 := Aside0.mk (blk_below (fB BK369.out) hb); have NB373_380 := Aside0.mk ((by rw [hg]; exact Nat.ne_of_lt (blk_lt (g := gb373) (o := .cells #[.int .i64 t370, .int .i64 t371] 54 (0, 0)) (fB BK373.out)) : gb373 ≠ gb380)); have NB380_373 := Aside0.mk ((by rw [hg]; exact Nat.ne_of_gt (blk_lt (g := gb373) (o := .cells #[.int .i64 t370, .int .i64 t371] 54 (0, 0)) (fB BK373.out)) : gb380 ≠ gb373)); replace BK373 := Aside0.mk (blk_below (fB BK373.out) hb); clear hb hbox hg) | ((with_reducible refine gate_dst (N := 11) rfl ?_); (try (refine gate_guard (by rfl) ?_; dsimp only)); refine bE (N := 11) (cs := #[.int .i64 0, .int .i64 0]) (t := 54) (h := ?_); intro gb381 hg w28 hbox hb; replace HO_6 := Aside0.mk (Kd.S_below (fS HO_6.out) hb); replace HO_7 := Aside0.mk (Kd.R_below (fR HO_7.out) hb); have BK381 := Aside0.mk (hbox); have GW381 := Aside0.mk (gE hg (fW HB.out)); have GE381 := GW381; replace HB := Aside0.mk (below_step (fW HB.out) hb); have NB369_381 := Aside0.mk ((by rw [hg]; exact Nat.ne_of_lt (blk_lt (g := gb369) (o := .cells #[.int .i64 x370000_1, .int .i64 x370001_1] 54 (0, 0)) (fB BK369.out)) : gb369 ≠ gb381)); have NB381_369 := Aside0.mk ((by rw [hg]; exact Nat.ne_of_gt (blk_lt (g := gb369) (o := .cells #[.int .i64 x370000_1, .int .i64 x370001_1] 54 (0, 0)) (fB BK369.out)) : gb381 ≠ gb369)); replace BK369 := Aside0.mk (blk_below (fB BK369.out) hb); have NB373_381 := Aside0.mk ((by rw [hg]; exact Nat.ne_of_lt (blk_lt (g := gb373) (o := .cells #[.int .i64 t370, .int .i64 t371] 54 (0, 0)) (fB BK373.out)) : gb373 ≠ gb381)); have NB381_373 := Aside0.mk ((by rw [hg]; exact Nat.ne_of_gt (blk_lt (g := gb373) (o := .cells #[.int .i64 t370, .int .i64 t371] 54 (0, 0)) (fB BK373.out)) : gb381 ≠ gb373)); replace BK373 := Aside0.mk (blk_below (fB BK373.out) hb); have NB380_381 := Aside0.mk ((by rw [hg]; exact Nat.ne_of_lt (blk_lt (g := gb380) (o := .cells #[.int .i64 0, .string (⟨#[]⟩ : ByteArray), .int .i64 0] 59 (0, 0)) (fB BK380.out)) : gb380 ≠ gb381)); have NB381_380 := Aside0.mk ((by rw [hg]; exact Nat.ne_of_gt (blk_lt (g := gb380) (o := .cells #[.int .i64 0, .string (⟨#[]⟩ : ByteArray), .int .i64 0] 59 (0, 0)) (fB BK380.out)) : gb381 ≠ gb380)); replace BK380 := Aside0.mk (blk_below (fB BK380.out) hb); clear hb hbox hg; have hnb29 := NB380_369.out; have hnc29 := NB369_380.out; have hnb30 := NB380_373.out; have hnc30 := NB373_380.out; have hnb31 := NB380_381.out; have hnc31 := NB381_380.out; have hcz32_0 : w28.cell? ⟨gb380, 0, none⟩ = some (.int .i64 0) := (blk_cell BK380.out 0).trans rfl; have hcz32_1 : w28.cell? ⟨gb380, 1, none⟩ = some (.string (⟨#[]⟩ : ByteArray)) := (blk_cell BK380.out 1).trans rfl; have hcz32_2 : w28.cell? ⟨gb380, 2, none⟩ = some (.int .i64 0) := (blk_cell BK380.out 2).trans rfl; have hfz32_0 := blk_frozen BK380.out 0; have hfz32_1 := blk_frozen BK380.out 1; have hfz32_2 := blk_frozen BK380.out 2; have hnb33 := NB381_369.out; have hnc33 := NB369_381.out; have hnb34 := NB381_373.out; have hnc34 := NB373_381.out; have hcz35_0 : w28.cell? ⟨gb381, 0, none⟩ = some (.int .i64 0) := (blk_cell BK381.out 0).trans rfl; have hcz35_1 : w28.cell? ⟨gb381, 1, none⟩ = some (.int .i64 0) := (blk_cell BK381.out 1).trans rfl; have hfz35_0 := blk_frozen BK381.out 0; have hfz35_1 := blk_frozen BK381.out 1) | ((with_reducible refine gate_builtin (b := .append) (xs := #[.tmp 39, .tmp 41]) rfl ?_); (try (refine gate_guard (by rfl) ?_; dsimp only)); at_builtin; refine Kd.R_append k59 (w0 := w) w.heap.size rfl (.tmp 39) (.tmp 41) 57 59 (.agg #[(.int .i64 0), (.string ⟨#[]⟩), (.int .i64 0)]) 32 rfl Tryd.underlying57 info59 rfl (by decide) (by omega) u7 x7_1 (⟨t374, t375, t376⟩ : S59) [.int .i64 t374, .string t375, .int .i64 t376] (fun k_ => k_ ≠ gb380) (fun _ => False) rfl (by first | (go_simp; done) | (go_simp; rfl)) ?aP (fun _ hk => hk.elim) ?aF ?aO ?aB ?aS ?aL ?_; (case aP => exact k59_mkM _ _ _ (⟨t374, t375, t376⟩ : S59)); (case aB => exact (fW HB.out)); (case aF => exact (fun k_ hk => Kd.freshB (g := gb380) (o := .cells #[.int .i64 t374, .string t375, .int .i64 t376] 59 (0, 0)) (by refine fB (h := ?_); refine blk_far ?_ NB380_381.out _; refine fB (h := ?_); refine blk_far ?_ NB380_381.out _; refine fB (h := ?_); refine blk_put (cs := #[.int .i64 t374, .string t375, .int .i64 0]) ?_ 2 _ rfl; refine fB (h := ?_); refine blk_put (cs := #[.int .i64 t374, .string (⟨#[]⟩ : ByteArray), .int .i64 0]) ?_ 1 _ rfl; refine fB (h := ?_); refine blk_put (cs := #[.int .i64 0, .string (⟨#[]⟩ : ByteArray), .int .i64 0]) ?_ 0 _ rfl; refine fB (h := ?_); exact BK380.out) k_ hk)); (case aO => exact (by refine fR (h := ?_); exact Kd.R_mono (Kd.R_far (p := ⟨gb381, 1, none⟩) (Kd.R_far (p := ⟨gb381, 0, none⟩) (Kd.R_far (p := ⟨gb380, 2, none⟩) (Kd.R_far (p := ⟨gb380, 1, none⟩) (Kd.R_far (p := ⟨gb380, 0, none⟩) (Kd.R_types (Kd.R_mono HO_7.out (fun k_ hk => (⟨hk, hk.2⟩ : _ ∧ k_ ≠ gb380))) BK381.out (by decide)) (fun _ hk => hk.1.2) (.int .i64 t374)) (fun _ hk => hk.1.2) (.string t375)) (fun _ hk => hk.1.2) (.int .i64 t376)) (fun _ hk => hk.2) (.int .i64 t378)) (fun _ hk => hk.2) (.int .i64 t379)) (fun _ hk => hk.1.1.2))); (case aS => exact (below_size (fW HB.out))); (case aL => have := LMc24.out; omega); intro v383 w36 ho hb hg hat; rw [← Ny382.out] at ho; replace HO_6 := Aside0.mk (Kd.S_after (ok := (fun k_ => k_ ≠ gb380)) (by refine fS (h := ?_); exact Kd.S_mono (Kd.S_far (p := ⟨gb381, 1, none⟩) (Kd.S_far (p := ⟨gb381, 0, none⟩) (Kd.S_far (p := ⟨gb380, 2, none⟩) (Kd.S_far (p := ⟨gb380, 1, none⟩) (Kd.S_far (p := ⟨gb380, 0, none⟩) (Kd.S_types (Kd.S_mono HO_6.out (fun k_ hk => (⟨hk, hk.2⟩ : _ ∧ k_ ≠ gb380))) BK381.out (by decide)) (fun _ hk => hk.1.2) (.int .i64 t374)) (fun _ hk => hk.1.2) (.string t375)) (fun _ hk => hk.1.2) (.int .i64 t376)) (fun _ hk => hk.2) (.int .i64 t378)) (fun _ hk => hk.2) (.int .i64 t379)) (fun _ hk => ⟨hk.1.1.2, hk.1.1.1⟩)) hg hat); replace BK369 := Aside0.mk (blk_grown (g := gb369) (o := .cells #[.int .i64 x370000_1, .int .i64 x370001_1] 54 (0, 0)) (by refine fB (h := ?_); refine blk_far ?_ NB369_381.out _; refine fB (h := ?_); refine blk_far ?_ NB369_381.out _; refine fB (h := ?_); refine blk_far ?_ NB369_380.out _; refine fB (h := ?_); refine blk_far ?_ NB369_380.out _; refine fB (h := ?_); refine blk_far ?_ NB369_380.out _; refine fB (h := ?_); exact BK369.out) hg (Kd.R_ne HO_7.out BK369.out (by decide))); replace BK373 := Aside0.mk (blk_grown (g := gb373) (o := .cells #[.int .i64 t370, .int .i64 t371] 54 (0, 0)) (by refine fB (h := ?_); refine blk_far ?_ NB373_381.out _; refine fB (h := ?_); refine blk_far ?_ NB373_381.out _; refine fB (h := ?_); refine blk_far ?_ NB373_380.out _; refine fB (h := ?_); refine blk_far ?_ NB373_380.out _; refine fB (h := ?_); refine blk_far ?_ NB373_380.out _; refine fB (h := ?_); exact BK373.out) hg (Kd.R_ne HO_7.out BK373.out (by decide))); replace BK380 := Aside0.mk (blk_grown (g := gb380) (o := .cells #[.int .i64 t374, .string t375, .int .i64 t376] 59 (0, 0)) (by refine fB (h := ?_); refine blk_far ?_ NB380_381.out _; refine fB (h := ?_); refine blk_far ?_ NB380_381.out _; refine fB (h := ?_); refine blk_put (cs := #[.int .i64 t374, .string t375, .int .i64 0]) ?_ 2 _ rfl; refine fB (h := ?_); refine blk_put (cs := #[.int .i64 t374, .string (⟨#[]⟩ : ByteArray), .int .i64 0]) ?_ 1 _ rfl; refine fB (h := ?_); refine blk_put (cs := #[.int .i64 0, .string (⟨#[]⟩ : ByteArray), .int .i64 0]) ?_ 0 _ rfl; refine fB (h := ?_); exact BK380.out) hg (Kd.R_away HO_7.out (fun _ hk => hk.2))); replace BK381 := Aside0.mk (blk_grown (g := gb381) (o := .cells #[.int .i64 t378, .int .i64 t379] 54 (0, 0)) (by refine fB (h := ?_); refine blk_put (cs := #[.int .i64 t378, .int .i64 0]) ?_ 1 _ rfl; refine fB (h := ?_); refine blk_put (cs := #[.int .i64 0, .int .i64 0]) ?_ 0 _ rfl; refine fB (h := ?_); refine blk_far ?_ NB381_380.out _; refine fB (h := ?_); refine blk_far ?_ NB381_380.out _; refine fB (h := ?_); refine blk_far ?_ NB381_380.out _; refine fB (h := ?_); exact BK381.out) hg (Kd.R_ne HO_7.out BK381.out (by decide))); replace HB := Aside0.mk (hb); have HO384 := Aside0.mk (ho); clear HO_7; clear ho hb hg hat))
        (try simp only [Act.put, List.setIfInBounds_toArray, List.set_cons_zero, List.set_cons_succ])
        go_cut [53] (fun v53 wc => ∃ (kq : Nat) (x53_24 : Bool), v53 = .bool x53_24 ∧ Aside0 (gleberef7_Records.j2 kq l0 x6_1 y382 t377 x53_24 = some (r1, r2, r3)) ∧ Aside0 (kq ≤ kj17) ∧ Aside0 (Kd.S (Kd.slice 59 k59) 57 wc w.heap.size (fun k_ => some k_ ≠ (v383 : Value).ownBlock ∧ k_ ≠ gb380) u6 x6_1) ∧ Aside0 (Kd.R k59 59 wc w.heap.size (fun k_ => k_ ≠ gb380) v383 y382) ∧ Aside0 (wc.heap[gb369]? = some (.cells #[.int .i64 x370000_1, .int .i64 x370001_1] 54 (0, 0))) ∧ Aside0 (wc.heap[gb373]? = some (.cells #[.int .i64 t370, .int .i64 t371] 54 (0, 0))) ∧ Aside0 (wc.heap[gb380]? = some (.cells #[.int .i64 t374, .string t375, .int .i64 t376] 59 (0, 0))) ∧ Aside0 (wc.heap[gb381]? = some (.cells #[.int .i64 t378, .int .i64 t379] 54 (0, 0))) ∧ Aside0 (Below w.heap.size w wc))
        case first =>
         have H := HC25.out
         clear HC25
         by_cases c37 : t377 < (l0.length : Int)
         ·rw [if_pos c37] at H
          have c37b0 := decide_eq_true c37
          clear c37
          (first | rw [c37b0] | (simp only [i64_w, i32_w]; rw [c37b0]) | skip)
          obtain ⟨c38, H⟩ := eT H
          have c38b0 := decide_eq_true c38
          clear c38
          have H' := Aside0.mk H
          clear H
          obtain ⟨ad385, rfl, hx385_0, p385, q385⟩ := aI HB HR0 (t377)
          go_wp2
          go_meet
          case rel => exact ⟨_, (((rd l0 t377) == 44)), oR, H', ⟨by have := HK1.out; have := HJ17.out; first | omega | exact Nat.le_refl _⟩, ⟨by refine fS (h := ?_); exact Kd.S_mono HO_6.out (fun _ hk => ⟨hk.2, hk.1⟩)⟩, ⟨fR HO384.out⟩, ⟨fB BK369.out⟩, ⟨fB BK373.out⟩, ⟨fB BK380.out⟩, ⟨fB BK381.out⟩, ⟨fW HB.out⟩⟩
         ·rw [if_neg c37] at H
          have c37b0 := decide_eq_false c37
          clear c37
          (first | rw [c37b0] | (simp only [i64_w, i32_w]; rw [c37b0]) | skip)
          have H' := Aside0.mk H
          clear H
          go_wp2
          go_meet
          case rel => exact ⟨_, (false), oR, H', ⟨by have := HK1.out; have := HJ17.out; first | omega | exact Nat.le_refl _⟩, ⟨by refine fS (h := ?_); exact Kd.S_mono HO_6.out (fun _ hk => ⟨hk.2, hk.1⟩)⟩, ⟨fR HO384.out⟩, ⟨fB BK369.out⟩, ⟨fB BK373.out⟩, ⟨fB BK380.out⟩, ⟨fB BK381.out⟩, ⟨fW HB.out⟩⟩
        case rest =>
         clear HC25
         try clear c3; try clear c19; try clear c19b0; try clear c21; try clear c23; try clear c23b0; try clear c23b1; try clear c24; try clear c37; try clear c37b0; try clear c38; try clear c38b0; try clear hcz17_0; try clear hcz17_1; try clear hcz32_0; try clear hcz32_1; try clear hcz32_2; try clear hcz35_0; try clear hcz35_1; try clear hcz8_0; try clear hcz8_1; try clear hfz17_0; try clear hfz17_1; try clear hfz32_0; try clear hfz32_1; try clear hfz32_2; try clear hfz35_0; try clear hfz35_1; try clear hfz8_0; try clear hfz8_1; try clear hx385_0; try clear p385; try clear q385
         obtain ⟨kq, x53_24, rfl, HA, HJ24, HO_6, HO_7, BK369, BK373, BK380, BK381, HB⟩ := hcut
         cases kq with
         | zero => exact absurd HA.out (by simp [gleberef7_Records.j2])
         | succ kj24 =>
          have H := HA.out
          clear HA
          simp only [gleberef7_Records.j2] at H
          by_cases c39 : x53_24 = true
          ·subst c39
           replace H := iT H
           have H' := Aside0.mk H
           clear H
           go_wp2
           go_roundg kj24
           case measure => have := HK1.out; have := HJ17.out; have := HJ24.out; omega
           case rel => exact ⟨(x6_1), (y382), (wrap64 (t377 + 1)), (x370000_1), (x370001_1), oR, H', ⟨by have := HK1.out; have := HJ17.out; have := HJ24.out; omega⟩, ⟨by refine fS (h := ?_); exact Kd.S_mono HO_6.out (fun _ hk => hk.1)⟩, ⟨by refine fR (h := ?_); exact Kd.R_mono HO_7.out (fun _ hk => trivial)⟩, ⟨fB BK369.out⟩, ⟨fB BK373.out⟩, ⟨fW HB.out⟩⟩
          ·replace c39 := Bool.eq_false_iff.mpr c39
           subst c39
           replace H := iF H
           obtain ⟨c40, H⟩ := eT H
           have LMc40 := Aside0.mk c40
           clear c40
           obtain ⟨y386, hy386⟩ : ∃ y_ : List (List (S59)), y_ = (x6_1 ++ [y382]) := ⟨_, rfl⟩
           replace H : (if t377 < (l0.length : Int) then (if 0 ≤ t377 then (gleberef7_Records.j3 kj24 l0 y386 ([] : List (S59)) t377 ((rd l0 t377) == 13)) else (none)) else (gleberef7_Records.j3 kj24 l0 y386 ([] : List (S59)) t377 false)) = some (r1, r2, r3) := by first | (rw [hy386]; with_reducible exact H) | (have H2_ := (Option.bind_some _ _).symm.trans H; rw [hy386]; with_reducible exact H2_) | (have H2_ := (Option.bind_some _ _).symm.trans H; with_reducible exact H2_) | with_reducible exact H | (rw [hy386]; exact H) | exact H
           have Ny386 := Aside0.mk hy386
           clear hy386
           have HC41 := Aside0.mk H
           clear H
           obtain ⟨Ao43, co43, eo43⟩ := Kd.R_slice HO_7.out
           subst eo43
           go_upto_region 15 with (first | ((with_reducible refine gate_builtin (b := .append) (xs := #[.tmp 56, .tmp 58]) rfl ?_); (try (refine gate_guard (by rfl) ?_; dsimp only)); at_builtin; refine Kd.S_append (Kd.slice 59 k59) (w0 := w) w.heap.size rfl (.tmp 56) (.tmp 58) 52 57 (.slice none 0 0) 24 rfl Tryd.underlying52 info57 rfl (by decide) (by omega) u6 x6_1 y382 [.slice Ao43 y382.length co43] (fun k_ => k_ ≠ gb380) (fun k_ => some k_ = (.slice Ao43 y382.length co43 : Value).ownBlock) rfl rfl ?aP (fun k_ hk_ => ((Kd.R_mono (ok' := fun k_ => ((fun k_ => k_ ≠ gb380)) k_ ∧ some k_ ≠ (u6 : Value).ownBlock) (Kd.R_apart' (HO_7.out) (Kd.S_typed HO_6.out) (by decide)) (fun k_ hk => ⟨hk.1, hk.2⟩))).1 k_ hk_.symm) ?aF ?aO ?aB ?aS ?aL ?_; (case aP => exact Kd.M_row (Kd.R_mono (Kd.R_tight rfl (Kd.R_mono (ok' := fun k_ => ((fun k_ => k_ ≠ gb380)) k_ ∧ some k_ ≠ (u6 : Value).ownBlock) (Kd.R_apart' (HO_7.out) (Kd.S_typed HO_6.out) (by decide)) (fun k_ hk => ⟨hk.1, hk.2⟩))) (fun _ h_ => h_))); (case aB => exact (fW HB.out)); (case aF => exact (fun k_ hk => Kd.freshB (g := gb380) (o := .cells #[.int .i64 t374, .string t375, .int .i64 t376] 59 (0, 0)) (fB BK380.out) k_ hk)); (case aO => exact (by refine fS (h := ?_); exact Kd.S_mono HO_6.out (fun k_ hk => ⟨hk.2, fun e_ => hk.1 e_⟩))); (case aS => exact (below_size (fW HB.out))); (case aL => have := LMc40.out; omega); intro v387 w42 ho hb hg hat; rw [← Ny386.out] at ho; replace BK369 := Aside0.mk (blk_grown (g := gb369) (o := .cells #[.int .i64 x370000_1, .int .i64 x370001_1] 54 (0, 0)) (fB BK369.out) hg (Kd.S_ne HO_6.out BK369.out (by decide))); replace BK373 := Aside0.mk (blk_grown (g := gb373) (o := .cells #[.int .i64 t370, .int .i64 t371] 54 (0, 0)) (fB BK373.out) hg (Kd.S_ne HO_6.out BK373.out (by decide))); replace BK380 := Aside0.mk (blk_grown (g := gb380) (o := .cells #[.int .i64 t374, .string t375, .int .i64 t376] 59 (0, 0)) (fB BK380.out) hg (Kd.S_ne HO_6.out BK380.out (by decide))); replace BK381 := Aside0.mk (blk_grown (g := gb381) (o := .cells #[.int .i64 t378, .int .i64 t379] 54 (0, 0)) (fB BK381.out) hg (Kd.S_ne HO_6.out BK381.out (by decide))); replace HB := Aside0.mk (hb); have HO388 := Aside0.mk (ho); clear HO_6 HO_7; clear ho hb hg hat))
           (try simp only [Act.put, List.setIfInBounds_toArray, List.set_cons_zero, List.set_cons_succ])
           go_cut [70] (fun v70 wc => ∃ (kq : Nat) (x70_40 : Bool), v70 = .bool x70_40 ∧ Aside0 (gleberef7_Records.j3 kq l0 y386 ([] : List (S59)) t377 x70_40 = some (r1, r2, r3)) ∧ Aside0 (kq ≤ kj24) ∧ Aside0 (Kd.S (Kd.slice 59 k59) 57 wc w.heap.size (fun k_ => some k_ ≠ ((.slice none 0 0) : Value).ownBlock ∧ k_ ≠ gb380) v387 y386) ∧ Aside0 (Kd.R k59 59 wc w.heap.size (fun k_ => k_ ≠ gb380) (.slice none 0 0) ([] : List (S59))) ∧ Aside0 (wc.heap[gb369]? = some (.cells #[.int .i64 x370000_1, .int .i64 x370001_1] 54 (0, 0))) ∧ Aside0 (wc.heap[gb373]? = some (.cells #[.int .i64 t370, .int .i64 t371] 54 (0, 0))) ∧ Aside0 (wc.heap[gb380]? = some (.cells #[.int .i64 t374, .string t375, .int .i64 t376] 59 (0, 0))) ∧ Aside0 (wc.heap[gb381]? = some (.cells #[.int .i64 t378, .int .i64 t379] 54 (0, 0))) ∧ Aside0 (Below w.heap.size w wc))
           case first =>
            have H := HC41.out
            clear HC41
            by_cases c44 : t377 < (l0.length : Int)
            ·rw [if_pos c44] at H
             have c44b0 := decide_eq_true c44
             clear c44
             (first | rw [c44b0] | (simp only [i64_w, i32_w]; rw [c44b0]) | skip)
             obtain ⟨c45, H⟩ := eT H
             have c45b0 := decide_eq_true c45
             clear c45
             have H' := Aside0.mk H
             clear H
             obtain ⟨ad389, rfl, hx389_0, p389, q389⟩ := aI HB HR0 (t377)
             go_wp2
             go_meet
             case rel => exact ⟨_, (((rd l0 t377) == 13)), oR, H', ⟨by have := HK1.out; have := HJ17.out; have := HJ24.out; first | omega | exact Nat.le_refl _⟩, ⟨by refine fS (h := ?_); exact Kd.S_mono HO388.out (fun _ hk => ⟨(by simp [Value.ownBlock]), hk⟩)⟩, ⟨by first | exact Kd.R_nil _ _ _ _ _ | exact Kd.N_nil _ _ _ _ _ | exact Kd.V_nil _ _ _ _ _ | exact Kd.Q_nil _ _ _ _ _ | exact Kd.S_nil _ _ _ _ _⟩, ⟨fB BK369.out⟩, ⟨fB BK373.out⟩, ⟨fB BK380.out⟩, ⟨fB BK381.out⟩, ⟨fW HB.out⟩⟩
            ·rw [if_neg c44] at H
             have c44b0 := decide_eq_false c44
             clear c44
             (first | rw [c44b0] | (simp only [i64_w, i32_w]; rw [c44b0]) | skip)
             have H' := Aside0.mk H
             clear H
             go_wp2
             go_meet
             case rel => exact ⟨_, (false), oR, H', ⟨by have := HK1.out; have := HJ17.out; have := HJ24.out; first | omega | exact Nat.le_refl _⟩, ⟨by refine fS (h := ?_); exact Kd.S_mono HO388.out (fun _ hk => ⟨(by simp [Value.ownBlock]), hk⟩)⟩, ⟨by first | exact Kd.R_nil _ _ _ _ _ | exact Kd.N_nil _ _ _ _ _ | exact Kd.V_nil _ _ _ _ _ | exact Kd.Q_nil _ _ _ _ _ | exact Kd.S_nil _ _ _ _ _⟩, ⟨fB BK369.out⟩, ⟨fB BK373.out⟩, ⟨fB BK380.out⟩, ⟨fB BK381.out⟩, ⟨fW HB.out⟩⟩
           case rest =>
            clear HC41
            try clear c3; try clear c19; try clear c19b0; try clear c21; try clear c23; try clear c23b0; try clear c23b1; try clear c24; try clear c37; try clear c37b0; try clear c38; try clear c38b0; try clear c39; try clear c40; try clear c44; try clear c44b0; try clear c45; try clear c45b0; try clear hcz17_0; try clear hcz17_1; try clear hcz32_0; try clear hcz32_1; try clear hcz32_2; try clear hcz35_0; try clear hcz35_1; try clear hcz8_0; try clear hcz8_1; try clear hfz17_0; try clear hfz17_1; try clear hfz32_0; try clear hfz32_1; try clear hfz32_2; try clear hfz35_0; try clear hfz35_1; try clear hfz8_0; try clear hfz8_1; try clear hx385_0; try clear hx389_0; try clear p385; try clear p389; try clear q385; try clear q389
            obtain ⟨kq, x70_40, rfl, HA, HJ40, HO_6, HO_7, BK369, BK373, BK380, BK381, HB⟩ := hcut
            cases kq with
            | zero => exact absurd HA.out (by simp [gleberef7_Records.j3])
            | succ kj40 =>
             have H := HA.out
             clear HA
             simp only [gleberef7_Records.j3] at H
             by_cases c46 : x70_40 = true
             ·subst c46
              replace H := iT H
              by_cases c47 : (wrap64 (t377 + 1)) ≥ (l0.length : Int)
              ·rw [if_pos c47] at H
               have c47b0 := decide_eq_true c47
               clear c47
               obtain ⟨⟨t390, t391⟩, A480, H⟩ := bS H
               dsimp only at H
               have A48 := Aside0.mk A480
               clear A480
               simp only [Option.some.injEq, Prod.mk.injEq] at H
               obtain ⟨rfl, rfl, rfl⟩ := H
               go_wp2_with (first | ((with_reducible refine gate_callee (f := 60) rfl ?_); refine goesL_ (some 85) rfl rfl Tryd.func60 (by kernel_rfl) rfl #[.int .i64 (wrap64 (t377 + 1))] rfl oA ?_; (with_reducible refine (gleberef7_syntax.calls (wrap64 (t377 + 1)) t390 t391 _ A48.out).mono ?_); rintro e w49 ⟨rfl, hb⟩; refine ⟨_, rfl, ?_⟩; replace HO_6 := Aside0.mk (Kd.S_below (fS HO_6.out) hb); replace HO_7 := Aside0.mk (Kd.R_below (fR HO_7.out) hb); replace BK369 := Aside0.mk (blk_below (fB BK369.out) hb); replace BK373 := Aside0.mk (blk_below (fB BK373.out) hb); replace BK380 := Aside0.mk (blk_below (fB BK380.out) hb); replace BK381 := Aside0.mk (blk_below (fB BK381.out) hb); replace HB := Aside0.mk (below_step (fW HB.out) hb); (try clear hb); (try clear hb2); (try clear hk); (try clear hi); have hnb50 := NB369_373.out; have hnc50 := NB373_369.out; have hnb51 := NB369_380.out; have hnc51 := NB380_369.out; have hnb52 := NB369_381.out; have hnc52 := NB381_369.out; have hcz53_0 : w49.cell? ⟨gb369, 0, none⟩ = some (.int .i64 x370000_1) := (blk_cell BK369.out 0).trans rfl; have hcz53_1 : w49.cell? ⟨gb369, 1, none⟩ = some (.int .i64 x370001_1) := (blk_cell BK369.out 1).trans rfl; have hfz53_0 := blk_frozen BK369.out 0; have hfz53_1 := blk_frozen BK369.out 1))
               refine bodyPost_ret (results_tc rfl _ _ gb369 54 #[.int .i64 t390, .int .i64 t391] (0, 0) _ rfl (by refine fB (h := ?_); refine blk_put (cs := #[.int .i64 t390, .int .i64 x370001_1]) ?_ 1 _ rfl; refine fB (h := ?_); refine blk_put (cs := #[.int .i64 x370000_1, .int .i64 x370001_1]) ?_ 0 _ rfl; refine fB (h := ?_); exact BK369.out) Tryd.underlying54 rfl (by kernel_rfl)) rfl ?_
               exact ⟨_, oE, by first | exact Kd.S_nil _ _ _ _ _ | exact Kd.N_nil _ _ _ _ _ | exact Kd.V_nil _ _ _ _ _ | exact Kd.Q_nil _ _ _ _ _ | exact Kd.R_nil _ _ _ _ _, fW HB.out⟩
              ·rw [if_neg c47] at H
               have c47b0 := decide_eq_false c47
               clear c47
               obtain ⟨ji54, hji54⟩ : ∃ j_ : Int, (wrap64 (t377 + 1)) = j_ := ⟨_, rfl⟩
               replace H : (if 0 ≤ (ji54) then (if (ji54) < (l0.length : Int) then (if (rd l0 (ji54)) = 10 then (gleberef7_Records.l0 kj40 l0 y386 ([] : List (S59)) (wrap64 ((ji54) + 1))) else ((gleberef7_syntax.f (ji54)).bind fun bt393 => (some (([] : List (List (S59))), bt393.1, bt393.2)))) else (none)) else (none)) = some (r1, r2, r3) := by first | (rw [hji54] at H; exact H) | (simp only [hji54] at H ⊢; exact H)
               (try rw [hji54] at c47b0)
               have hji54w : (IntKind.i64.wrap (t377 + 1)) = ji54 := (i64_w _).trans hji54
               obtain ⟨c55, H⟩ := eT H
               have c55b0 := decide_eq_true c55
               clear c55
               obtain ⟨c56, H⟩ := eT H
               have c56b0 := decide_eq_true c56
               clear c56
               by_cases c57 : (rd l0 (ji54)) = 10
               ·rw [if_pos c57] at H
                have c57b0 := qT c57
                have c57b1 := nF c57
                clear c57
                have H' := Aside0.mk H
                clear H
                obtain ⟨ad392, rfl, hx392_0, p392, q392⟩ := aI HB HR0 ((ji54))
                go_wp2
                go_roundg kj40
                case measure => have := HK1.out; have := HJ17.out; have := HJ24.out; have := HJ40.out; omega
                case rel => exact ⟨(y386), (([] : List (S59))), (wrap64 ((ji54) + 1)), (x370000_1), (x370001_1), (by first | rfl | (simp; done) | (simp only [← hji54] <;> (first | rfl | simp)) | (simp [*]; done)), H', ⟨by have := HK1.out; have := HJ17.out; have := HJ24.out; have := HJ40.out; omega⟩, ⟨by refine fS (h := ?_); exact Kd.S_mono HO_6.out (fun _ hk => hk.1)⟩, ⟨by refine fR (h := ?_); exact Kd.R_mono HO_7.out (fun _ hk => trivial)⟩, ⟨fB BK369.out⟩, ⟨fB BK373.out⟩, ⟨fW HB.out⟩⟩
               ·rw [if_neg c57] at H
                have c57b0 : ((rd l0 (ji54)) == 10) = false := beq_eq_false_iff_ne.mpr c57
                have c57b1 : ((rd l0 (ji54)) != 10) = true := bne_iff_ne.mpr c57
                obtain ⟨⟨t393, t394⟩, A580, H⟩ := bS H
                dsimp only at H
                have A58 := Aside0.mk A580
                clear A580
                simp only [Option.some.injEq, Prod.mk.injEq] at H
                obtain ⟨rfl, rfl, rfl⟩ := H
                obtain ⟨ad392, rfl, hx392_0, p392, q392⟩ := aI HB HR0 ((ji54))
                go_wp2_with (first | ((with_reducible refine gate_callee (f := 60) rfl ?_); refine goesL_ (some 85) rfl rfl Tryd.func60 (by kernel_rfl) rfl #[.int .i64 ji54] rfl (by (try simp only [List.map_toArray, List.map_cons, List.map_nil]); first | done | (simp only [hji54]; rfl) | rfl | (simp only [List.length_drop, List.length_take]; rfl)) ?_; (with_reducible refine (gleberef7_syntax.calls ji54 t393 t394 _ A58.out).mono ?_); rintro e w59 ⟨rfl, hb⟩; refine ⟨_, rfl, ?_⟩; replace HO_6 := Aside0.mk (Kd.S_below (fS HO_6.out) hb); replace HO_7 := Aside0.mk (Kd.R_below (fR HO_7.out) hb); replace BK369 := Aside0.mk (blk_below (fB BK369.out) hb); replace BK373 := Aside0.mk (blk_below (fB BK373.out) hb); replace BK380 := Aside0.mk (blk_below (fB BK380.out) hb); replace BK381 := Aside0.mk (blk_below (fB BK381.out) hb); replace HB := Aside0.mk (below_step (fW HB.out) hb); (try clear hb); (try clear hb2); (try clear hk); (try clear hi); have hnb60 := NB369_373.out; have hnc60 := NB373_369.out; have hnb61 := NB369_380.out; have hnc61 := NB380_369.out; have hnb62 := NB369_381.out; have hnc62 := NB381_369.out; have hcz63_0 : w59.cell? ⟨gb369, 0, none⟩ = some (.int .i64 x370000_1) := (blk_cell BK369.out 0).trans rfl; have hcz63_1 : w59.cell? ⟨gb369, 1, none⟩ = some (.int .i64 x370001_1) := (blk_cell BK369.out 1).trans rfl; have hfz63_0 := blk_frozen BK369.out 0; have hfz63_1 := blk_frozen BK369.out 1))
                refine bodyPost_ret (results_tc rfl _ _ gb369 54 #[.int .i64 t393, .int .i64 t394] (0, 0) _ rfl (by refine fB (h := ?_); refine blk_put (cs := #[.int .i64 t393, .int .i64 x370001_1]) ?_ 1 _ rfl; refine fB (h := ?_); refine blk_put (cs := #[.int .i64 x370000_1, .int .i64 x370001_1]) ?_ 0 _ rfl; refine fB (h := ?_); exact BK369.out) Tryd.underlying54 rfl (by kernel_rfl)) rfl ?_
                exact ⟨_, by first | rfl | (simp [errW_none, errW_some] <;> rfl) | (simp only [← hji54]; first | rfl | (simp [errW_none, errW_some] <;> rfl)) | (simp [*, errW_none, errW_some] <;> rfl), by first | exact Kd.S_nil _ _ _ _ _ | exact Kd.N_nil _ _ _ _ _ | exact Kd.V_nil _ _ _ _ _ | exact Kd.Q_nil _ _ _ _ _ | exact Kd.R_nil _ _ _ _ _, fW HB.out⟩
             ·replace c46 := Bool.eq_false_iff.mpr c46
              subst c46
              replace H := iF H
              have H' := Aside0.mk H
              clear H
              go_wp2
              go_roundg kj40
              case measure => have := HK1.out; have := HJ17.out; have := HJ24.out; have := HJ40.out; omega
              case rel => exact ⟨(y386), (([] : List (S59))), (wrap64 (t377 + 1)), (x370000_1), (x370001_1), oR, H', ⟨by have := HK1.out; have := HJ17.out; have := HJ24.out; have := HJ40.out; omega⟩, ⟨by refine fS (h := ?_); exact Kd.S_mono HO_6.out (fun _ hk => hk.1)⟩, ⟨by refine fR (h := ?_); exact Kd.R_mono HO_7.out (fun _ hk => trivial)⟩, ⟨fB BK369.out⟩, ⟨fB BK373.out⟩, ⟨fW HB.out⟩⟩
       ·rw [if_neg c23] at H
        have c23b0 : (t378 == 0) = false := beq_eq_false_iff_ne.mpr c23
        have c23b1 : (t378 != 0) = true := bne_iff_ne.mpr c23
        simp only [Option.some.injEq, Prod.mk.injEq] at H
        obtain ⟨rfl, rfl, rfl⟩ := H
        try go_wp2_with (first | ((with_reducible refine gate_callee (f := 59) rfl ?_); refine goesL_ (some 31) rfl rfl Tryd.func59 (by kernel_rfl) rfl #[.slice A0 l0.length c0, .int .i64 x8_1] rfl oA ?_; (with_reducible refine (gleberef7_field.calls kj17 _ _ l0 x8_1 t374 t375 t376 t377 t378 t379 _ ?side1 ?side2 A22.out).mono ?_); (case side1 => exact fC (Kd.C_below HR0.out HB.out)); (case side2 => exact HC0.out); rintro e w64 ⟨rfl, hb⟩; refine ⟨_, rfl, ?_⟩; replace HO_6 := Aside0.mk (Kd.S_below (fS HO_6.out) hb); replace HO_7 := Aside0.mk (Kd.R_below (fR HO_7.out) hb); replace BK369 := Aside0.mk (blk_below (fB BK369.out) hb); replace BK373 := Aside0.mk (blk_below (fB BK373.out) hb); replace HB := Aside0.mk (below_step (fW HB.out) hb); (try clear hb); (try clear hb2); (try clear hk); (try clear hi)) | ((with_reducible refine gate_dst (N := 9) rfl ?_); (try (refine gate_guard (by rfl) ?_; dsimp only)); refine bE (N := 9) (cs := #[.int .i64 0, .string (⟨#[]⟩ : ByteArray), .int .i64 0]) (t := 59) (h := ?_); intro gb380 hg w65 hbox hb; replace HO_6 := Aside0.mk (Kd.S_below (Kd.S_elderB (fS HO_6.out) gb380 (Nat.le_of_eq hg.symm)) hb); replace HO_7 := Aside0.mk (Kd.R_below (Kd.R_elderB (fR HO_7.out) gb380 (Nat.le_of_eq hg.symm)) hb); have BK380 := Aside0.mk (hbox); have GW380 := Aside0.mk (gE hg (fW HB.out)); have GE380 := GW380; replace HB := Aside0.mk (below_step (fW HB.out) hb); have NB369_380 := Aside0.mk ((by rw [hg]; exact Nat.ne_of_lt (blk_lt (g := gb369) (o := .cells #[.int .i64 x370000_1, .int .i64 x370001_1] 54 (0, 0)) (fB BK369.out)) : gb369 ≠ gb380)); have NB380_369 := Aside0.mk ((by rw [hg]; exact Nat.ne_of_gt (blk_lt (g := gb369) (o := .cells #[.int .i64 x370000_1, .int .i64 x370001_1] 54 (0, 0)) (fB BK369.out)) : gb380 ≠ gb369)); replace BK369 := Aside0.mk (blk_below (fB BK369.out) hb); have NB373_380 := Aside0.mk ((by rw [hg]; exact Nat.ne_of_lt (blk_lt (g := gb373) (o := .cells #[.int .i64 t370, .int .i64 t371] 54 (0, 0)) (fB BK373.out)) : gb373 ≠ gb380)); have NB380_373 := Aside0.mk ((by rw [hg]; exact Nat.ne_of_gt (blk_lt (g := gb373) (o := .cells #[.int .i64 t370, .int .i64 t371] 54 (0, 0)) (fB BK373.out)) : gb380 ≠ gb373)); replace BK373 := Aside0.mk (blk_below (fB BK373.out) hb); clear hb hbox hg) | ((with_reducible refine gate_dst (N := 11) rfl ?_); (try (refine gate_guard (by rfl) ?_; dsimp only)); refine bE (N := 11) (cs := #[.int .i64 0, .int .i64 0]) (t := 54) (h := ?_); intro gb381 hg w66 hbox hb; replace HO_6 := Aside0.mk (Kd.S_below (fS HO_6.out) hb); replace HO_7 := Aside0.mk (Kd.R_below (fR HO_7.out) hb); have BK381 := Aside0.mk (hbox); have GW381 := Aside0.mk (gE hg (fW HB.out)); have GE381 := GW381; replace HB := Aside0.mk (below_step (fW HB.out) hb); have NB369_381 := Aside0.mk ((by rw [hg]; exact Nat.ne_of_lt (blk_lt (g := gb369) (o := .cells #[.int .i64 x370000_1, .int .i64 x370001_1] 54 (0, 0)) (fB BK369.out)) : gb369 ≠ gb381)); have NB381_369 := Aside0.mk ((by rw [hg]; exact Nat.ne_of_gt (blk_lt (g := gb369) (o := .cells #[.int .i64 x370000_1, .int .i64 x370001_1] 54 (0, 0)) (fB BK369.out)) : gb381 ≠ gb369)); replace BK369 := Aside0.mk (blk_below (fB BK369.out) hb); have NB373_381 := Aside0.mk ((by rw [hg]; exact Nat.ne_of_lt (blk_lt (g := gb373) (o := .cells #[.int .i64 t370, .int .i64 t371] 54 (0, 0)) (fB BK373.out)) : gb373 ≠ gb381)); have NB381_373 := Aside0.mk ((by rw [hg]; exact Nat.ne_of_gt (blk_lt (g := gb373) (o := .cells #[.int .i64 t370, .int .i64 t371] 54 (0, 0)) (fB BK373.out)) : gb381 ≠ gb373)); replace BK373 := Aside0.mk (blk_below (fB BK373.out) hb); have NB380_381 := Aside0.mk ((by rw [hg]; exact Nat.ne_of_lt (blk_lt (g := gb380) (o := .cells #[.int .i64 0, .string (⟨#[]⟩ : ByteArray), .int .i64 0] 59 (0, 0)) (fB BK380.out)) : gb380 ≠ gb381)); have NB381_380 := Aside0.mk ((by rw [hg]; exact Nat.ne_of_gt (blk_lt (g := gb380) (o := .cells #[.int .i64 0, .string (⟨#[]⟩ : ByteArray), .int .i64 0] 59 (0, 0)) (fB BK380.out)) : gb381 ≠ gb380)); replace BK380 := Aside0.mk (blk_below (fB BK380.out) hb); clear hb hbox hg; have hnb67 := NB380_369.out; have hnc67 := NB369_380.out; have hnb68 := NB380_373.out; have hnc68 := NB373_380.out; have hnb69 := NB380_381.out; have hnc69 := NB381_380.out; have hcz70_0 : w66.cell? ⟨gb380, 0, none⟩ = some (.int .i64 0) := (blk_cell BK380.out 0).trans rfl; have hcz70_1 : w66.cell? ⟨gb380, 1, none⟩ = some (.string (⟨#[]⟩ : ByteArray)) := (blk_cell BK380.out 1).trans rfl; have hcz70_2 : w66.cell? ⟨gb380, 2, none⟩ = some (.int .i64 0) := (blk_cell BK380.out 2).trans rfl; have hfz70_0 := blk_frozen BK380.out 0; have hfz70_1 := blk_frozen BK380.out 1; have hfz70_2 := blk_frozen BK380.out 2; have hnb71 := NB381_369.out; have hnc71 := NB369_381.out; have hnb72 := NB381_373.out; have hnc72 := NB373_381.out; have hcz73_0 : w66.cell? ⟨gb381, 0, none⟩ = some (.int .i64 0) := (blk_cell BK381.out 0).trans rfl; have hcz73_1 : w66.cell? ⟨gb381, 1, none⟩ = some (.int .i64 0) := (blk_cell BK381.out 1).trans rfl; have hfz73_0 := blk_frozen BK381.out 0; have hfz73_1 := blk_frozen BK381.out 1))
        have n0_ : Aside0 (Kd.S (Kd.slice 59 k59) 57 (((((w66.setCell ⟨gb380, 0, none⟩ (.int .i64 t374)).setCell ⟨gb380, 1, none⟩ (.string t375)).setCell ⟨gb380, 2, none⟩ (.int .i64 t376)).setCell ⟨gb381, 0, none⟩ (.int .i64 t378)).setCell ⟨gb381, 1, none⟩ (.int .i64 t379)) w.heap.size (fun k_ => some k_ ≠ (u7 : Value).ownBlock ∧ k_ ≠ gb380) u6 x6_1) := ⟨by refine fS (h := ?_); exact Kd.S_mono (Kd.S_far (p := ⟨gb381, 1, none⟩) (Kd.S_far (p := ⟨gb381, 0, none⟩) (Kd.S_far (p := ⟨gb380, 2, none⟩) (Kd.S_far (p := ⟨gb380, 1, none⟩) (Kd.S_far (p := ⟨gb380, 0, none⟩) (Kd.S_types (Kd.S_mono HO_6.out (fun k_ hk => (⟨hk, hk.2⟩ : _ ∧ k_ ≠ gb380))) BK381.out (by decide)) (fun _ hk => hk.1.2) (.int .i64 t374)) (fun _ hk => hk.1.2) (.string t375)) (fun _ hk => hk.1.2) (.int .i64 t376)) (fun _ hk => hk.2) (.int .i64 t378)) (fun _ hk => hk.2) (.int .i64 t379)) (fun _ hk => ⟨hk.1.1.1, hk.1.1.2⟩)⟩
        have n1_ : Aside0 (Kd.R k59 59 (((((w66.setCell ⟨gb380, 0, none⟩ (.int .i64 t374)).setCell ⟨gb380, 1, none⟩ (.string t375)).setCell ⟨gb380, 2, none⟩ (.int .i64 t376)).setCell ⟨gb381, 0, none⟩ (.int .i64 t378)).setCell ⟨gb381, 1, none⟩ (.int .i64 t379)) w.heap.size (fun k_ => k_ ≠ gb380) u7 x7_1) := ⟨by refine fR (h := ?_); exact Kd.R_mono (Kd.R_far (p := ⟨gb381, 1, none⟩) (Kd.R_far (p := ⟨gb381, 0, none⟩) (Kd.R_far (p := ⟨gb380, 2, none⟩) (Kd.R_far (p := ⟨gb380, 1, none⟩) (Kd.R_far (p := ⟨gb380, 0, none⟩) (Kd.R_types (Kd.R_mono HO_7.out (fun k_ hk => (⟨hk, hk.2⟩ : _ ∧ k_ ≠ gb380))) BK381.out (by decide)) (fun _ hk => hk.1.2) (.int .i64 t374)) (fun _ hk => hk.1.2) (.string t375)) (fun _ hk => hk.1.2) (.int .i64 t376)) (fun _ hk => hk.2) (.int .i64 t378)) (fun _ hk => hk.2) (.int .i64 t379)) (fun _ hk => hk.1.1.2)⟩
        have n2_ : Aside0 ((((((w66.setCell ⟨gb380, 0, none⟩ (.int .i64 t374)).setCell ⟨gb380, 1, none⟩ (.string t375)).setCell ⟨gb380, 2, none⟩ (.int .i64 t376)).setCell ⟨gb381, 0, none⟩ (.int .i64 t378)).setCell ⟨gb381, 1, none⟩ (.int .i64 t379)).heap[gb369]? = some (.cells #[.int .i64 x370000_1, .int .i64 x370001_1] 54 (0, 0))) := ⟨by refine fB (h := ?_); refine blk_far ?_ NB369_381.out _; refine fB (h := ?_); refine blk_far ?_ NB369_381.out _; refine fB (h := ?_); refine blk_far ?_ NB369_380.out _; refine fB (h := ?_); refine blk_far ?_ NB369_380.out _; refine fB (h := ?_); refine blk_far ?_ NB369_380.out _; refine fB (h := ?_); exact BK369.out⟩
        have n3_ : Aside0 ((((((w66.setCell ⟨gb380, 0, none⟩ (.int .i64 t374)).setCell ⟨gb380, 1, none⟩ (.string t375)).setCell ⟨gb380, 2, none⟩ (.int .i64 t376)).setCell ⟨gb381, 0, none⟩ (.int .i64 t378)).setCell ⟨gb381, 1, none⟩ (.int .i64 t379)).heap[gb373]? = some (.cells #[.int .i64 t370, .int .i64 t371] 54 (0, 0))) := ⟨by refine fB (h := ?_); refine blk_far ?_ NB373_381.out _; refine fB (h := ?_); refine blk_far ?_ NB373_381.out _; refine fB (h := ?_); refine blk_far ?_ NB373_380.out _; refine fB (h := ?_); refine blk_far ?_ NB373_380.out _; refine fB (h := ?_); refine blk_far ?_ NB373_380.out _; refine fB (h := ?_); exact BK373.out⟩
        have n4_ : Aside0 ((((((w66.setCell ⟨gb380, 0, none⟩ (.int .i64 t374)).setCell ⟨gb380, 1, none⟩ (.string t375)).setCell ⟨gb380, 2, none⟩ (.int .i64 t376)).setCell ⟨gb381, 0, none⟩ (.int .i64 t378)).setCell ⟨gb381, 1, none⟩ (.int .i64 t379)).heap[gb380]? = some (.cells #[.int .i64 t374, .string t375, .int .i64 t376] 59 (0, 0))) := ⟨by refine fB (h := ?_); refine blk_far ?_ NB380_381.out _; refine fB (h := ?_); refine blk_far ?_ NB380_381.out _; refine fB (h := ?_); refine blk_put (cs := #[.int .i64 t374, .string t375, .int .i64 0]) ?_ 2 _ rfl; refine fB (h := ?_); refine blk_put (cs := #[.int .i64 t374, .string (⟨#[]⟩ : ByteArray), .int .i64 0]) ?_ 1 _ rfl; refine fB (h := ?_); refine blk_put (cs := #[.int .i64 0, .string (⟨#[]⟩ : ByteArray), .int .i64 0]) ?_ 0 _ rfl; refine fB (h := ?_); exact BK380.out⟩
        have n5_ : Aside0 ((((((w66.setCell ⟨gb380, 0, none⟩ (.int .i64 t374)).setCell ⟨gb380, 1, none⟩ (.string t375)).setCell ⟨gb380, 2, none⟩ (.int .i64 t376)).setCell ⟨gb381, 0, none⟩ (.int .i64 t378)).setCell ⟨gb381, 1, none⟩ (.int .i64 t379)).heap[gb381]? = some (.cells #[.int .i64 t378, .int .i64 t379] 54 (0, 0))) := ⟨by refine fB (h := ?_); refine blk_put (cs := #[.int .i64 t378, .int .i64 0]) ?_ 1 _ rfl; refine fB (h := ?_); refine blk_put (cs := #[.int .i64 0, .int .i64 0]) ?_ 0 _ rfl; refine fB (h := ?_); refine blk_far ?_ NB381_380.out _; refine fB (h := ?_); refine blk_far ?_ NB381_380.out _; refine fB (h := ?_); refine blk_far ?_ NB381_380.out _; refine fB (h := ?_); exact BK381.out⟩
        have n6_ : Aside0 (Below w.heap.size w (((((w66.setCell ⟨gb380, 0, none⟩ (.int .i64 t374)).setCell ⟨gb380, 1, none⟩ (.string t375)).setCell ⟨gb380, 2, none⟩ (.int .i64 t376)).setCell ⟨gb381, 0, none⟩ (.int .i64 t378)).setCell ⟨gb381, 1, none⟩ (.int .i64 t379))) := ⟨fW HB.out⟩
        (try clear HO_6)
        (try clear HO_7)
        (try clear BK369)
        (try clear BK373)
        (try clear BK380)
        (try clear BK381)
        (try clear HB)
        generalize (((((w66.setCell ⟨gb380, 0, none⟩ (.int .i64 t374)).setCell ⟨gb380, 1, none⟩ (.string t375)).setCell ⟨gb380, 2, none⟩ (.int .i64 t376)).setCell ⟨gb381, 0, none⟩ (.int .i64 t378)).setCell ⟨gb381, 1, none⟩ (.int .i64 t379)) = w74 at n0_ n1_ n2_ n3_ n4_ n5_ n6_ ⊢
        have HO_6 := n0_
        have HO_7 := n1_
        have BK369 := n2_
        have BK373 := n3_
        have BK380 := n4_
        have BK381 := n5_
        have HB := n6_
        clear n0_ n1_ n2_ n3_ n4_ n5_ n6_
        have n0_ := Aside0.mk (Kd.S_drew HO_6.out)
        have n1_ := Aside0.mk (Kd.R_drew HO_7.out)
        have n2_ := Aside0.mk (blk_drew BK369.out)
        have n3_ := Aside0.mk (blk_drew BK373.out)
        have n4_ := Aside0.mk (blk_drew BK380.out)
        have n5_ := Aside0.mk (blk_drew BK381.out)
        have n6_ := Aside0.mk (below_drew1 HB.out)
        clear HO_6
        clear HO_7
        clear BK369
        clear BK373
        clear BK380
        clear BK381
        clear HB
        have HO_6 := n0_
        have HO_7 := n1_
        have BK369 := n2_
        have BK373 := n3_
        have BK380 := n4_
        have BK381 := n5_
        have HB := n6_
        clear n0_ n1_ n2_ n3_ n4_ n5_ n6_
        refine start_ (n := 3) (S := fun w' => w'.cell? ⟨gb381, 0, none⟩ = some (.int .i64 t378) ∧ w'.cell? ⟨gb381, 1, none⟩ = some (.int .i64 t379)) (ds := []) #[false, false, false] (by kernel_rfl) rfl rfl ⟨(blk_cell BK381.out 0).trans rfl, (blk_cell BK381.out 1).trans rfl⟩ (fun hHeld => ?_)
        generalize w74.drew = w75 at HO_6 HO_7 BK369 BK373 BK380 BK381 HB hHeld ⊢
        refine pure_ (i := 1) (N := some 2) (v := ?_) (a' := ?_) #[false, true, false] rfl rfl (by kernel_rfl) (fun _ _ _ h => h) (Or.inl ⟨by rfl, ?_⟩) ?_ ?_
        rotate_left
        ·intro w'
         go_simp
         with_reducible rfl
        rotate_left
        ·refine sP (h := ?_)
         rfl
        refine take_ (i := 0) (N := some 38) (v := ?_) (a' := ?_) #[true, true, false] rfl rfl (by kernel_rfl) (fun _ _ _ h => h) (Or.inl ⟨by rfl, ?_⟩) hHeld ?_ ?_
        rotate_left
        ·rintro w' ⟨s0, s1⟩
         go_simp
         with_reducible rfl
        rotate_left
        ·refine sP (h := ?_)
         rfl
        refine one_ (i := 2) (N := none) #[true, true, true] rfl rfl (by kernel_rfl) (by decide) (fun K hK => ?_)
        have hs76 : w75.cell? ⟨gb369, 0, none⟩ = some (.int .i64 x370000_1) := (blk_cell BK369.out 0).trans rfl
        have hfs76 := blk_frozen BK369.out 0
        have hns76_1 := NB373_369.out
        have hns76_2 := NB380_369.out
        have hns76_3 := NB381_369.out
        have hms76_1 := NB369_373.out
        have hms76_2 := NB369_380.out
        have hms76_3 := NB369_381.out
        have hs77 : w75.cell? ⟨gb369, 1, none⟩ = some (.int .i64 x370001_1) := (blk_cell BK369.out 1).trans rfl
        have hfs77 := blk_frozen BK369.out 1
        have hns77_1 := NB373_369.out
        have hns77_2 := NB380_369.out
        have hns77_3 := NB381_369.out
        have hms77_1 := NB369_373.out
        have hms77_2 := NB369_380.out
        have hms77_3 := NB369_381.out
        refine skip_ (w1 := ?_) (by rfl) rfl ?_ ?_
        rotate_left
        ·go_simp
         rfl
        refine hK.out _ _ ⟨((cell_far (p := ⟨gb369, _, none⟩) NB381_369.out _).trans (((cell_far (p := ⟨gb369, _, none⟩) NB381_369.out _).trans (hHeld.1)))), ((cell_far (p := ⟨gb369, _, none⟩) NB381_369.out _).trans (((cell_far (p := ⟨gb369, _, none⟩) NB381_369.out _).trans (hHeld.2))))⟩ (fun hHeld => ?_)
        clear hK K
        refine done_ (by kernel_rfl) ?_
        try go_wp2
        refine bodyPost_ret (results_tc rfl _ _ gb369 54 #[.int .i64 t378, .int .i64 t379] (0, 0) _ rfl (by refine fB (h := ?_); refine blk_put (cs := #[.int .i64 t378, .int .i64 x370001_1]) ?_ 1 _ rfl; refine fB (h := ?_); refine blk_put (cs := #[.int .i64 x370000_1, .int .i64 x370001_1]) ?_ 0 _ rfl; refine fB (h := ?_); exact BK369.out) Tryd.underlying54 rfl (by kernel_rfl)) rfl ?_
        exact ⟨_, oE, by first | exact Kd.S_nil _ _ _ _ _ | exact Kd.N_nil _ _ _ _ _ | exact Kd.V_nil _ _ _ _ _ | exact Kd.Q_nil _ _ _ _ _ | exact Kd.R_nil _ _ _ _ _, fW HB.out⟩
      ·replace c21 := Bool.eq_false_iff.mpr c21
       subst c21
       replace H := iF H
       simp only [Option.some.injEq, Prod.mk.injEq] at H
       obtain ⟨rfl, rfl, rfl⟩ := H
       have hnb78 := NB369_373.out
       have hnc78 := NB373_369.out
       have hcz79_0 : wc.cell? ⟨gb369, 0, none⟩ = some (.int .i64 x370000_1) := (blk_cell BK369.out 0).trans rfl
       have hcz79_1 : wc.cell? ⟨gb369, 1, none⟩ = some (.int .i64 x370001_1) := (blk_cell BK369.out 1).trans rfl
       have hfz79_0 := blk_frozen BK369.out 0
       have hfz79_1 := blk_frozen BK369.out 1
       go_wp2
       refine bodyPost_ret (results_tc rfl _ _ gb369 54 #[.int .i64 0, .int .i64 0] (0, 0) _ rfl (by refine fB (h := ?_); refine blk_put (cs := #[.int .i64 0, .int .i64 x370001_1]) ?_ 1 _ rfl; refine fB (h := ?_); refine blk_put (cs := #[.int .i64 x370000_1, .int .i64 x370001_1]) ?_ 0 _ rfl; refine fB (h := ?_); exact BK369.out) Tryd.underlying54 rfl (by kernel_rfl)) rfl ?_
       exact ⟨_, oE, by refine fS (h := ?_); exact Kd.S_mono (Kd.S_far (p := ⟨gb369, 1, none⟩) (Kd.S_far (p := ⟨gb369, 0, none⟩) (Kd.S_types HO_6.out BK369.out (by decide)) (fun _ hk => hk.2) (.int .i64 0)) (fun _ hk => hk.2) (.int .i64 0)) (fun _ hk => trivial), fW HB.out⟩

/-! ### gleberef7_SameToks: function 37 -/
def gleberef7_SameToks.l0 : Nat → List (S59) → List (S59) → Int → Option (Bool)
 | 0, _, _, _ => none
 | k + 1, x0, x1, x5 => if x5 < (x0.length : Int) then (if 0 ≤ x5 then (if x5 < (x1.length : Int) then (if (!(((rd_T59 x0 x5).f0) == ((rd_T59 x1 x5).f0)) || (!((((rd_T59 x0 x5).f1).toList) == (((rd_T59 x1 x5).f1).toList)) || (!(((rd_T59 x0 x5).f2) == ((rd_T59 x1 x5).f2))))) = true then (some false) else (gleberef7_SameToks.l0 k x0 x1 (wrap64 (x5 + 1)))) else (none)) else (none)) else (some true)
def gleberef7_SameToks.f (k : Nat) (l0 : List (S59)) (l1 : List (S59)) : Option (Bool) := if (l0.length : Int) = (l1.length : Int) then (gleberef7_SameToks.l0 k l0 l1 0) else (some false)
theorem gleberef7_SameToks.mono_l : ∀ k, (∀ y0 y1 y2, LeO (gleberef7_SameToks.l0 k y0 y1 y2) (gleberef7_SameToks.l0 (k + 1) y0 y1 y2))
 | 0 => fun _ _ _ r h => by simp [gleberef7_SameToks.l0] at h
 | k + 1 => by
  have ih0 := gleberef7_SameToks.mono_l k
  ·intro y0 y1 y2
   unfold gleberef7_SameToks.l0
   repeat' first
   | (with_reducible first | exact ih0 _ _ _ | exact LeO.refl _ | exact LeO.none _ | refine LeO.ite ?_ ?_ | refine LeO.bind ?_ (fun _ => ?_))
   | exact ih0 _ _ _
   | exact LeO.none _
   | refine LeO.ite ?_ ?_
   | refine LeO.bind ?_ (fun _ => ?_)
theorem gleberef7_SameToks.mono : ∀ a0 a1 k, LeO (gleberef7_SameToks.f k a0 a1) (gleberef7_SameToks.f (k + 1) a0 a1) := by
 intro a0 a1 k
 have ih0 := gleberef7_SameToks.mono_l k
 unfold gleberef7_SameToks.f
 repeat' first
   | (with_reducible first | exact ih0 _ _ _ | exact LeO.refl _ | exact LeO.none _ | refine LeO.ite ?_ ?_ | refine LeO.bind ?_ (fun _ => ?_))
   | exact ih0 _ _ _
   | exact LeO.none _
   | refine LeO.ite ?_ ?_
   | refine LeO.bind ?_ (fun _ => ?_)
set_option maxHeartbeats 8000000 in
set_option maxRecDepth 100000 in
theorem gleberef7_SameToks.calls (k : Nat) (A0 : Option Addr) (c0 : Nat) (l0 : List (S59)) (A1 : Option Addr) (c1 : Nat) (l1 : List (S59)) (r : Bool) (w : World) (hr0 : Kd.C k59 w A0 l0.length l0) (hc0 : l0.length ≤ c0) (hr1 : Kd.C k59 w A1 l1.length l1) (hc1 : l1.length ≤ c1) (h : gleberef7_SameToks.f k l0 l1 = some r) :
  Calls Tryd.prog 37 #[.slice A0 l0.length c0, .slice A1 l1.length c1] w fun e w' => e = .returned (.bool r) ∧ Drawn0 w w' := by
 have hu59 := Tryd.underlying59
 have HR0 := Aside0.mk hr0
 have HC0 := Aside0.mk hc0
 clear hr0 hc0
 have HR1 := Aside0.mk hr1
 have HC1 := Aside0.mk hc1
 clear hr1 hc1
 have H : (if (l0.length : Int) = (l1.length : Int) then (gleberef7_SameToks.l0 k l0 l1 0) else (some false)) = some r := h
 clear h
 by_cases c3 : (l0.length : Int) = (l1.length : Int)
 ·rw [if_pos c3] at H
  have c3b0 := qT c3
  have c3b1 := nF c3
  have c3b2 : (l0.length == l1.length) = true := by first | simpa using c3 | (simp at c3 ⊢; omega)
  clear c3
  have H' := Aside0.mk H
  clear H
  go_enter Tryd.func37, Tryd.ntmps37
  go_wp2
  repeat (go_quiet (fail); try go_wp2)
  go_loopg [5] k (fun kq v5 w' => ∃ (x5_1 : Int), v5 = .int .i64 x5_1 ∧ Aside0 (gleberef7_SameToks.l0 kq l0 l1 x5_1 = some r) ∧ Aside0 (kq ≤ k) ∧ Drawn0 w w')
  case atStart => exact ⟨(0), oR, H', ⟨Nat.le_refl _⟩, by repeat (first | exact Drawn0.refl _ | apply Drawn0.step)⟩
  case round =>
   clear H'
   try clear c1; try clear c3; try clear c3b0; try clear c3b1; try clear c3b2
   obtain ⟨x5_1, rfl, HA, HK1, ⟨m1, rfl⟩⟩ := hrel
   cases gk with
   | zero => exact absurd HA.out (by simp [gleberef7_SameToks.l0])
   | succ k1 =>
    have H := HA.out
    clear HA
    simp only [gleberef7_SameToks.l0] at H
    by_cases c4 : x5_1 < (l0.length : Int)
    ·rw [if_pos c4] at H
     have c4b0 := decide_eq_true c4
     clear c4
     obtain ⟨c5, H⟩ := eT H
     have c5b0 := decide_eq_true c5
     clear c5
     obtain ⟨c6, H⟩ := eT H
     have c6b0 := decide_eq_true c6
     clear c6
     by_cases c7 : (!(((rd_T59 l0 x5_1).f0) == ((rd_T59 l1 x5_1).f0)) || (!((((rd_T59 l0 x5_1).f1).toList) == (((rd_T59 l1 x5_1).f1).toList)) || (!(((rd_T59 l0 x5_1).f2) == ((rd_T59 l1 x5_1).f2))))) = true
     ·rw [if_pos c7] at H
      have c7b0 : (!(((rd_T59 l0 x5_1).f0) == ((rd_T59 l1 x5_1).f0)) || (!((((rd_T59 l0 x5_1).f1).toList) == (((rd_T59 l1 x5_1).f1).toList)) || (!(((rd_T59 l0 x5_1).f2) == ((rd_T59 l1 x5_1).f2))))) = true := c7
      clear c7
      obtain rfl := Option.some.inj H
      have p395 : 0 ≤ (x5_1 : Int) := oD
      have q395 : x5_1 < (l0.length : Int) := oD
      obtain ⟨ad395, e395, hx395_0, hx395_1, hx395_2⟩ := at_T59 HR0.out x5_1 p395 q395
      cases e395
      replace p395 := eq_true p395
      replace q395 := eq_true q395
      have p396 : 0 ≤ (x5_1 : Int) := oD
      have q396 : x5_1 < (l1.length : Int) := oD
      obtain ⟨ad396, e396, hx396_0, hx396_1, hx396_2⟩ := at_T59 HR1.out x5_1 p396 q396
      cases e396
      replace p396 := eq_true p396
      replace q396 := eq_true q396
      go_wp2
      repeat (go_quiet (fail); try go_wp2)
      go_ret
      exact ⟨by first | rfl | (simp only [i64_w]; done) | (simp; done) | (simp [*]; done), by repeat (first | exact Drawn0.refl _ | apply Drawn0.step)⟩
     ·rw [if_neg c7] at H
      have c7b0 : (!(((rd_T59 l0 x5_1).f0) == ((rd_T59 l1 x5_1).f0)) || (!((((rd_T59 l0 x5_1).f1).toList) == (((rd_T59 l1 x5_1).f1).toList)) || (!(((rd_T59 l0 x5_1).f2) == ((rd_T59 l1 x5_1).f2))))) = false := by simpa using c7
      clear c7
      have H' := Aside0.mk H
      clear H
      have p395 : 0 ≤ (x5_1 : Int) := oD
      have q395 : x5_1 < (l0.length : Int) := oD
      obtain ⟨ad395, e395, hx395_0, hx395_1, hx395_2⟩ := at_T59 HR0.out x5_1 p395 q395
      cases e395
      replace p395 := eq_true p395
      replace q395 := eq_true q395
      have p396 : 0 ≤ (x5_1 : Int) := oD
      have q396 : x5_1 < (l1.length : Int) := oD
      obtain ⟨ad396, e396, hx396_0, hx396_1, hx396_2⟩ := at_T59 HR1.out x5_1 p396 q396
      cases e396
      replace p396 := eq_true p396
      replace q396 := eq_true q396
      go_wp2
      repeat (go_quiet (fail); try go_wp2)
      go_roundg k1
      case measure => have := HK1.out; omega
      case rel => exact ⟨(wrap64 (x5_1 + 1)), oR, H', ⟨by have := HK1.out; omega⟩, by repeat (first | exact Drawn0.refl _ | apply Drawn0.step)⟩
    ·rw [if_neg c4] at H
     have c4b0 := decide_eq_false c4
     clear c4
     obtain rfl := Option.some.inj H
     go_wp2
     repeat (go_quiet (fail); try go_wp2)
     go_ret
     exact ⟨by first | rfl | (simp only [i64_w]; done) | (simp; done) | (simp [*]; done), by repeat (first | exact Drawn0.refl _ | apply Drawn0.step)⟩
 ·rw [if_neg c3] at H
  have c3b0 : ((l0.length : Int) == (l1.length : Int)) = false := beq_eq_false_iff_ne.mpr c3
  have c3b1 : ((l0.length : Int) != (l1.length : Int)) = true := bne_iff_ne.mpr c3
  have c3b2 : (l0.length == l1.length) = false := by first | simpa using c3 | (simp at c3 ⊢; omega)
  obtain rfl := Option.some.inj H
  go_enter Tryd.func37, Tryd.ntmps37
  go_wp2
  repeat (go_quiet (fail); try go_wp2)
  go_ret
  exact ⟨by first | rfl | (simp only [i64_w]; done) | (simp; done) | (simp [*]; done), by repeat (first | exact Drawn0.refl _ | apply Drawn0.step)⟩

end Go.Proofs.YtcgchblljhbdaaaDoor.C
