-- Printed by this session's own program (wip/xprint) out of the translation. Lean checks it.
import Derived.Test.YtcgchblljhbdaaaDoorZx0
import Derived.Test.YtcgchblljhbdaaaDoorZx2
import Derived.Test.YtcgchblljhbdaaaDoorZx3
namespace Go.Proofs.YtcgchblljhbdaaaDoor.Z
open Go.Proofs.YtcgchblljhbdaaaDoor
open Go.RowKit Go.Proofs.YtcgchblljhbdaaaDoorW.PrintWords Go.Proofs.YtcgchblljhbdaaaDoorW.PrintLast Go.Proofs.YtcgchblljhbdaaaDoorW.PrintMore
attribute [local go_sem] max2_int min2_int max_two min_two max_three min_three max_four min_four   -- for this text's walks alone
set_option linter.unusedVariables false
set_option linter.unusedSimpArgs false

/-! ### glebelaw6_DateBack: function 6 -/
def glebelaw6_DateBack.j0 : Nat → Int → Bool → Option (Bool)
  | 0, _, _ => none
  | k + 1, x0, x83 => if x83 = true then (none) else ((date_Text.f x0).bind fun t277 => ((date_Num.f k t277 x0).bind fun bt278 => ((date_Text.f (IntKind.u64.wrap (x0 + 1))).bind fun t280 => ((date_Num.f k t280 x0).bind fun bt281 => (if bt278.2 = true then (if bt278.1 = x0 then (if bt281.2 = true then (none) else ((date_Week.f x0).bind fun t283 => ((date_Week.f (IntKind.u64.wrap (x0 + 86400))).bind fun t284 => (if (Int.tmod (wrap64 (t283 + 1)) 7) = t284 then ((glebelaw6_awake.f k).bind fun t285 => (some t285)) else (none))))) else (none)) else (none))))))
def glebelaw6_DateBack.f (k : Nat) (a0 : Int) : Option (Bool) := (date_Print.f k (Int.tmod a0 253402300799)).bind fun bt267 => ((date_Parse.f k bt267.1 bt267.2.1).bind fun bt270 => ((date_Print.f k (IntKind.u64.wrap ((Int.tmod a0 253402300799) + 1))).bind fun bt272 => ((date_Parse.f k bt272.1 bt272.2.1).bind fun bt275 => (if bt267.2.2 = true then (if bt270.2 = true then (if bt270.1 = (Int.tmod a0 253402300799) then (if bt272.2.2 = true then (if bt275.2 = true then (if bt275.1 = (IntKind.u64.wrap ((Int.tmod a0 253402300799) + 1)) then (if (Op.bytesLess bt272.1.toList bt267.1.toList) = true then (glebelaw6_DateBack.j0 k (Int.tmod a0 253402300799) true) else (if bt272.1.toList = bt267.1.toList then (if (Op.bytesLess bt272.2.1.toList bt267.2.1.toList) = true then (glebelaw6_DateBack.j0 k (Int.tmod a0 253402300799) true) else (if bt272.2.1.toList = bt267.2.1.toList then (glebelaw6_DateBack.j0 k (Int.tmod a0 253402300799) true) else (glebelaw6_DateBack.j0 k (Int.tmod a0 253402300799) false))) else (glebelaw6_DateBack.j0 k (Int.tmod a0 253402300799) false))) else (glebelaw6_DateBack.j0 k (Int.tmod a0 253402300799) true)) else (glebelaw6_DateBack.j0 k (Int.tmod a0 253402300799) true)) else (glebelaw6_DateBack.j0 k (Int.tmod a0 253402300799) true)) else (glebelaw6_DateBack.j0 k (Int.tmod a0 253402300799) true)) else (glebelaw6_DateBack.j0 k (Int.tmod a0 253402300799) true)) else (glebelaw6_DateBack.j0 k (Int.tmod a0 253402300799) true)))))
theorem glebelaw6_DateBack.mono_l : ∀ k, (∀ y0 y1, LeO (glebelaw6_DateBack.j0 k y0 y1) (glebelaw6_DateBack.j0 (k + 1) y0 y1))
  | 0 => fun _ _ r h => by simp [glebelaw6_DateBack.j0] at h
  | k + 1 => by
    have ih0 := glebelaw6_DateBack.mono_l k
    · intro y0 y1
      unfold glebelaw6_DateBack.j0
      repeat' first
      | (with_reducible exact ih0 _ _)
      | (with_reducible exact date_Num.mono _ _ _)
      | (with_reducible exact date_Parse.mono _ _ _)
      | (with_reducible exact date_Print.mono _ _)
      | (with_reducible exact glebelaw6_awake.mono _)
      | (with_reducible exact LeO.refl _)
      | (with_reducible exact LeO.none _)
      | (with_reducible refine LeO.ite ?_ ?_)
      | (with_reducible refine LeO.bind ?_ (fun _ => ?_))
      | exact ih0 _ _
      | exact date_Num.mono _ _ _
      | exact date_Parse.mono _ _ _
      | exact date_Print.mono _ _
      | exact glebelaw6_awake.mono _
      | exact LeO.none _
      | refine LeO.ite ?_ ?_
      | refine LeO.bind ?_ (fun _ => ?_)
theorem glebelaw6_DateBack.mono : ∀ a0 k, LeO (glebelaw6_DateBack.f k a0) (glebelaw6_DateBack.f (k + 1) a0) := by
  intro a0 k
  have ih0 := glebelaw6_DateBack.mono_l k
  unfold glebelaw6_DateBack.f
  repeat' first
      | (with_reducible exact ih0 _ _)
      | (with_reducible exact date_Num.mono _ _ _)
      | (with_reducible exact date_Parse.mono _ _ _)
      | (with_reducible exact date_Print.mono _ _)
      | (with_reducible exact glebelaw6_awake.mono _)
      | (with_reducible exact LeO.refl _)
      | (with_reducible exact LeO.none _)
      | (with_reducible refine LeO.ite ?_ ?_)
      | (with_reducible refine LeO.bind ?_ (fun _ => ?_))
      | exact ih0 _ _
      | exact date_Num.mono _ _ _
      | exact date_Parse.mono _ _ _
      | exact date_Print.mono _ _
      | exact glebelaw6_awake.mono _
      | exact LeO.none _
      | refine LeO.ite ?_ ?_
      | refine LeO.bind ?_ (fun _ => ?_)
set_option maxHeartbeats 8000000 in
set_option maxRecDepth 100000 in
theorem glebelaw6_DateBack.calls (k : Nat) (a0 : Int) (r : Bool) (w : World) (hTab : XT.Tabs w) (h : glebelaw6_DateBack.f k a0 = some r) :
    Calls Tryd.prog 6 #[.int .u64 a0] w fun e w' => e = .returned (.bool r) ∧ Below w.heap.size w w' := by
  have HB := Aside0.mk (Below.refl w.heap.size w)
  have H : ((date_Print.f k (Int.tmod a0 253402300799)).bind fun bt267 => ((date_Parse.f k bt267.1 bt267.2.1).bind fun bt270 => ((date_Print.f k (IntKind.u64.wrap ((Int.tmod a0 253402300799) + 1))).bind fun bt272 => ((date_Parse.f k bt272.1 bt272.2.1).bind fun bt275 => (if bt267.2.2 = true then (if bt270.2 = true then (if bt270.1 = (Int.tmod a0 253402300799) then (if bt272.2.2 = true then (if bt275.2 = true then (if bt275.1 = (IntKind.u64.wrap ((Int.tmod a0 253402300799) + 1)) then (if (Op.bytesLess bt272.1.toList bt267.1.toList) = true then (glebelaw6_DateBack.j0 k (Int.tmod a0 253402300799) true) else (if bt272.1.toList = bt267.1.toList then (if (Op.bytesLess bt272.2.1.toList bt267.2.1.toList) = true then (glebelaw6_DateBack.j0 k (Int.tmod a0 253402300799) true) else (if bt272.2.1.toList = bt267.2.1.toList then (glebelaw6_DateBack.j0 k (Int.tmod a0 253402300799) true) else (glebelaw6_DateBack.j0 k (Int.tmod a0 253402300799) false))) else (glebelaw6_DateBack.j0 k (Int.tmod a0 253402300799) false))) else (glebelaw6_DateBack.j0 k (Int.tmod a0 253402300799) true)) else (glebelaw6_DateBack.j0 k (Int.tmod a0 253402300799) true)) else (glebelaw6_DateBack.j0 k (Int.tmod a0 253402300799) true)) else (glebelaw6_DateBack.j0 k (Int.tmod a0 253402300799) true)) else (glebelaw6_DateBack.j0 k (Int.tmod a0 253402300799) true)) else (glebelaw6_DateBack.j0 k (Int.tmod a0 253402300799) true)))))) = some r := h
  clear h
  replace H := Option.bind_eq_some_iff.mp H
  obtain ⟨⟨t267, t268, t269⟩, A20, H⟩ := H
  replace H : ((date_Parse.f k t267 t268).bind fun bt270 => ((date_Print.f k (IntKind.u64.wrap ((Int.tmod a0 253402300799) + 1))).bind fun bt272 => ((date_Parse.f k bt272.1 bt272.2.1).bind fun bt275 => (if t269 = true then (if bt270.2 = true then (if bt270.1 = (Int.tmod a0 253402300799) then (if bt272.2.2 = true then (if bt275.2 = true then (if bt275.1 = (IntKind.u64.wrap ((Int.tmod a0 253402300799) + 1)) then (if (Op.bytesLess bt272.1.toList t267.toList) = true then (glebelaw6_DateBack.j0 k (Int.tmod a0 253402300799) true) else (if bt272.1.toList = t267.toList then (if (Op.bytesLess bt272.2.1.toList t268.toList) = true then (glebelaw6_DateBack.j0 k (Int.tmod a0 253402300799) true) else (if bt272.2.1.toList = t268.toList then (glebelaw6_DateBack.j0 k (Int.tmod a0 253402300799) true) else (glebelaw6_DateBack.j0 k (Int.tmod a0 253402300799) false))) else (glebelaw6_DateBack.j0 k (Int.tmod a0 253402300799) false))) else (glebelaw6_DateBack.j0 k (Int.tmod a0 253402300799) true)) else (glebelaw6_DateBack.j0 k (Int.tmod a0 253402300799) true)) else (glebelaw6_DateBack.j0 k (Int.tmod a0 253402300799) true)) else (glebelaw6_DateBack.j0 k (Int.tmod a0 253402300799) true)) else (glebelaw6_DateBack.j0 k (Int.tmod a0 253402300799) true)) else (glebelaw6_DateBack.j0 k (Int.tmod a0 253402300799) true))))) = some r := H
  have A2 := Aside0.mk A20
  clear A20
  replace H := Option.bind_eq_some_iff.mp H
  obtain ⟨⟨t270, t271⟩, A30, H⟩ := H
  replace H : ((date_Print.f k (IntKind.u64.wrap ((Int.tmod a0 253402300799) + 1))).bind fun bt272 => ((date_Parse.f k bt272.1 bt272.2.1).bind fun bt275 => (if t269 = true then (if t271 = true then (if t270 = (Int.tmod a0 253402300799) then (if bt272.2.2 = true then (if bt275.2 = true then (if bt275.1 = (IntKind.u64.wrap ((Int.tmod a0 253402300799) + 1)) then (if (Op.bytesLess bt272.1.toList t267.toList) = true then (glebelaw6_DateBack.j0 k (Int.tmod a0 253402300799) true) else (if bt272.1.toList = t267.toList then (if (Op.bytesLess bt272.2.1.toList t268.toList) = true then (glebelaw6_DateBack.j0 k (Int.tmod a0 253402300799) true) else (if bt272.2.1.toList = t268.toList then (glebelaw6_DateBack.j0 k (Int.tmod a0 253402300799) true) else (glebelaw6_DateBack.j0 k (Int.tmod a0 253402300799) false))) else (glebelaw6_DateBack.j0 k (Int.tmod a0 253402300799) false))) else (glebelaw6_DateBack.j0 k (Int.tmod a0 253402300799) true)) else (glebelaw6_DateBack.j0 k (Int.tmod a0 253402300799) true)) else (glebelaw6_DateBack.j0 k (Int.tmod a0 253402300799) true)) else (glebelaw6_DateBack.j0 k (Int.tmod a0 253402300799) true)) else (glebelaw6_DateBack.j0 k (Int.tmod a0 253402300799) true)) else (glebelaw6_DateBack.j0 k (Int.tmod a0 253402300799) true)))) = some r := H
  have A3 := Aside0.mk A30
  clear A30
  replace H := Option.bind_eq_some_iff.mp H
  obtain ⟨⟨t272, t273, t274⟩, A40, H⟩ := H
  replace H : ((date_Parse.f k t272 t273).bind fun bt275 => (if t269 = true then (if t271 = true then (if t270 = (Int.tmod a0 253402300799) then (if t274 = true then (if bt275.2 = true then (if bt275.1 = (IntKind.u64.wrap ((Int.tmod a0 253402300799) + 1)) then (if (Op.bytesLess t272.toList t267.toList) = true then (glebelaw6_DateBack.j0 k (Int.tmod a0 253402300799) true) else (if t272.toList = t267.toList then (if (Op.bytesLess t273.toList t268.toList) = true then (glebelaw6_DateBack.j0 k (Int.tmod a0 253402300799) true) else (if t273.toList = t268.toList then (glebelaw6_DateBack.j0 k (Int.tmod a0 253402300799) true) else (glebelaw6_DateBack.j0 k (Int.tmod a0 253402300799) false))) else (glebelaw6_DateBack.j0 k (Int.tmod a0 253402300799) false))) else (glebelaw6_DateBack.j0 k (Int.tmod a0 253402300799) true)) else (glebelaw6_DateBack.j0 k (Int.tmod a0 253402300799) true)) else (glebelaw6_DateBack.j0 k (Int.tmod a0 253402300799) true)) else (glebelaw6_DateBack.j0 k (Int.tmod a0 253402300799) true)) else (glebelaw6_DateBack.j0 k (Int.tmod a0 253402300799) true)) else (glebelaw6_DateBack.j0 k (Int.tmod a0 253402300799) true))) = some r := H
  have A4 := Aside0.mk A40
  clear A40
  replace H := Option.bind_eq_some_iff.mp H
  obtain ⟨⟨t275, t276⟩, A50, H⟩ := H
  replace H : (if t269 = true then (if t271 = true then (if t270 = (Int.tmod a0 253402300799) then (if t274 = true then (if t276 = true then (if t275 = (IntKind.u64.wrap ((Int.tmod a0 253402300799) + 1)) then (if (Op.bytesLess t272.toList t267.toList) = true then (glebelaw6_DateBack.j0 k (Int.tmod a0 253402300799) true) else (if t272.toList = t267.toList then (if (Op.bytesLess t273.toList t268.toList) = true then (glebelaw6_DateBack.j0 k (Int.tmod a0 253402300799) true) else (if t273.toList = t268.toList then (glebelaw6_DateBack.j0 k (Int.tmod a0 253402300799) true) else (glebelaw6_DateBack.j0 k (Int.tmod a0 253402300799) false))) else (glebelaw6_DateBack.j0 k (Int.tmod a0 253402300799) false))) else (glebelaw6_DateBack.j0 k (Int.tmod a0 253402300799) true)) else (glebelaw6_DateBack.j0 k (Int.tmod a0 253402300799) true)) else (glebelaw6_DateBack.j0 k (Int.tmod a0 253402300799) true)) else (glebelaw6_DateBack.j0 k (Int.tmod a0 253402300799) true)) else (glebelaw6_DateBack.j0 k (Int.tmod a0 253402300799) true)) else (glebelaw6_DateBack.j0 k (Int.tmod a0 253402300799) true)) = some r := H
  have A5 := Aside0.mk A50
  clear A50
  have HC6 := Aside0.mk H
  clear H
  go_enter Tryd.func6, Tryd.ntmps6
  go_upto_region 6 with (first | ((with_reducible refine gate_callee (f := 17) rfl ?_); refine goesL_ (some 21) rfl rfl Tryd.func17 (by kernel_rfl) rfl #[.int .u64 (Int.tmod a0 253402300799)] rfl (by (try simp only [List.map_toArray, List.map_cons, List.map_nil]); first | done | rfl | (simp only [List.length_drop, List.length_take]; rfl)) ?_; (with_reducible refine (date_Print.calls k (Int.tmod a0 253402300799) t267 t268 t269 _ ?side1 A2.out).mono ?_); (case side1 => exact XT.Tabs.below hTab (by repeat (first | (with_reducible first | exact HB.out | apply below_alloc | apply pw_below_drewN | apply below_drew1) | exact HB.out))); rintro e w7 ⟨rfl, hb⟩; refine ⟨_, rfl, ?_⟩; have n0_ := Aside0.mk (below_step (by repeat (first | (with_reducible first | exact HB.out | apply below_alloc | apply pw_below_drewN | apply below_drew1) | exact HB.out)) hb); clear HB; have HB := n0_; clear n0_; (try clear hb); (try clear hb2); (try clear hk); (try clear hi)) | ((with_reducible refine gate_callee (f := 15) rfl ?_); refine goesL_ (some 28) rfl rfl Tryd.func15 (by kernel_rfl) rfl #[.string t267, .string t268] rfl (by (try simp only [List.map_toArray, List.map_cons, List.map_nil]); first | done | rfl | (simp only [List.length_drop, List.length_take]; rfl)) ?_; (with_reducible refine (date_Parse.calls k t267 t268 t270 t271 _ A3.out).mono ?_); rintro e w8 ⟨rfl, hb⟩; refine ⟨_, rfl, ?_⟩; have n0_ := Aside0.mk (below_step (by repeat (first | (with_reducible first | exact HB.out | apply below_alloc | apply pw_below_drewN | apply below_drew1) | exact HB.out)) hb); clear HB; have HB := n0_; clear n0_; (try clear hb); (try clear hb2); (try clear hk); (try clear hi)) | ((with_reducible refine gate_callee (f := 17) rfl ?_); refine goesL_ (some 34) rfl rfl Tryd.func17 (by kernel_rfl) rfl #[.int .u64 (IntKind.u64.wrap ((Int.tmod a0 253402300799) + 1))] rfl (by (try simp only [List.map_toArray, List.map_cons, List.map_nil]); first | done | rfl | (simp only [List.length_drop, List.length_take]; rfl)) ?_; (with_reducible refine (date_Print.calls k (IntKind.u64.wrap ((Int.tmod a0 253402300799) + 1)) t272 t273 t274 _ ?side1 A4.out).mono ?_); (case side1 => exact XT.Tabs.below hTab (by repeat (first | (with_reducible first | exact HB.out | apply below_alloc | apply pw_below_drewN | apply below_drew1) | exact HB.out))); rintro e w9 ⟨rfl, hb⟩; refine ⟨_, rfl, ?_⟩; have n0_ := Aside0.mk (below_step (by repeat (first | (with_reducible first | exact HB.out | apply below_alloc | apply pw_below_drewN | apply below_drew1) | exact HB.out)) hb); clear HB; have HB := n0_; clear n0_; (try clear hb); (try clear hb2); (try clear hk); (try clear hi)) | ((with_reducible refine gate_callee (f := 15) rfl ?_); refine goesL_ (some 41) rfl rfl Tryd.func15 (by kernel_rfl) rfl #[.string t272, .string t273] rfl (by (try simp only [List.map_toArray, List.map_cons, List.map_nil]); first | done | rfl | (simp only [List.length_drop, List.length_take]; rfl)) ?_; (with_reducible refine (date_Parse.calls k t272 t273 t275 t276 _ A5.out).mono ?_); rintro e w10 ⟨rfl, hb⟩; refine ⟨_, rfl, ?_⟩; have n0_ := Aside0.mk (below_step (by repeat (first | (with_reducible first | exact HB.out | apply below_alloc | apply pw_below_drewN | apply below_drew1) | exact HB.out)) hb); clear HB; have HB := n0_; clear n0_; (try clear hb); (try clear hb2); (try clear hk); (try clear hi)))
  (try simp only [Act.put, List.setIfInBounds_toArray, List.set_cons_zero, List.set_cons_succ])
  go_cut [83] (fun v83 wc => ∃ (kq : Nat) (x83_5 : Bool), v83 = .bool x83_5 ∧ Aside0 (glebelaw6_DateBack.j0 kq (Int.tmod a0 253402300799) x83_5 = some r) ∧ Aside0 (kq ≤ k) ∧ Aside0 (Below w.heap.size w wc))
  case first =>
    have H := HC6.out
    clear HC6
    by_cases c11 : t269 = true
    · subst c11
      have H1 : (if t271 = true then (if t270 = (Int.tmod a0 253402300799) then (if t274 = true then (if t276 = true then (if t275 = (IntKind.u64.wrap ((Int.tmod a0 253402300799) + 1)) then (if (Op.bytesLess t272.toList t267.toList) = true then (glebelaw6_DateBack.j0 k (Int.tmod a0 253402300799) true) else (if t272.toList = t267.toList then (if (Op.bytesLess t273.toList t268.toList) = true then (glebelaw6_DateBack.j0 k (Int.tmod a0 253402300799) true) else (if t273.toList = t268.toList then (glebelaw6_DateBack.j0 k (Int.tmod a0 253402300799) true) else (glebelaw6_DateBack.j0 k (Int.tmod a0 253402300799) false))) else (glebelaw6_DateBack.j0 k (Int.tmod a0 253402300799) false))) else (glebelaw6_DateBack.j0 k (Int.tmod a0 253402300799) true)) else (glebelaw6_DateBack.j0 k (Int.tmod a0 253402300799) true)) else (glebelaw6_DateBack.j0 k (Int.tmod a0 253402300799) true)) else (glebelaw6_DateBack.j0 k (Int.tmod a0 253402300799) true)) else (glebelaw6_DateBack.j0 k (Int.tmod a0 253402300799) true)) = some r := by rw [if_pos rfl] at H; exact H
      clear H
      have H := H1
      clear H1
      by_cases c12 : t271 = true
      · subst c12
        have H1 : (if t270 = (Int.tmod a0 253402300799) then (if t274 = true then (if t276 = true then (if t275 = (IntKind.u64.wrap ((Int.tmod a0 253402300799) + 1)) then (if (Op.bytesLess t272.toList t267.toList) = true then (glebelaw6_DateBack.j0 k (Int.tmod a0 253402300799) true) else (if t272.toList = t267.toList then (if (Op.bytesLess t273.toList t268.toList) = true then (glebelaw6_DateBack.j0 k (Int.tmod a0 253402300799) true) else (if t273.toList = t268.toList then (glebelaw6_DateBack.j0 k (Int.tmod a0 253402300799) true) else (glebelaw6_DateBack.j0 k (Int.tmod a0 253402300799) false))) else (glebelaw6_DateBack.j0 k (Int.tmod a0 253402300799) false))) else (glebelaw6_DateBack.j0 k (Int.tmod a0 253402300799) true)) else (glebelaw6_DateBack.j0 k (Int.tmod a0 253402300799) true)) else (glebelaw6_DateBack.j0 k (Int.tmod a0 253402300799) true)) else (glebelaw6_DateBack.j0 k (Int.tmod a0 253402300799) true)) = some r := by rw [if_pos rfl] at H; exact H
        clear H
        have H := H1
        clear H1
        by_cases c13 : t270 = (Int.tmod a0 253402300799)
        · rw [if_pos c13] at H
          have c13b0 : (t270 == (Int.tmod a0 253402300799)) = true := beq_iff_eq.mpr c13
          have c13b1 : (t270 != (Int.tmod a0 253402300799)) = false := bne_eq_false_iff_eq.mpr c13
          clear c13
          (first | rw [c13b0] | (simp only [i64_w, i32_w]; rw [c13b0]) | skip)
          by_cases c14 : t274 = true
          · subst c14
            have H1 : (if t276 = true then (if t275 = (IntKind.u64.wrap ((Int.tmod a0 253402300799) + 1)) then (if (Op.bytesLess t272.toList t267.toList) = true then (glebelaw6_DateBack.j0 k (Int.tmod a0 253402300799) true) else (if t272.toList = t267.toList then (if (Op.bytesLess t273.toList t268.toList) = true then (glebelaw6_DateBack.j0 k (Int.tmod a0 253402300799) true) else (if t273.toList = t268.toList then (glebelaw6_DateBack.j0 k (Int.tmod a0 253402300799) true) else (glebelaw6_DateBack.j0 k (Int.tmod a0 253402300799) false))) else (glebelaw6_DateBack.j0 k (Int.tmod a0 253402300799) false))) else (glebelaw6_DateBack.j0 k (Int.tmod a0 253402300799) true)) else (glebelaw6_DateBack.j0 k (Int.tmod a0 253402300799) true)) = some r := by rw [if_pos rfl] at H; exact H
            clear H
            have H := H1
            clear H1
            by_cases c15 : t276 = true
            · subst c15
              have H1 : (if t275 = (IntKind.u64.wrap ((Int.tmod a0 253402300799) + 1)) then (if (Op.bytesLess t272.toList t267.toList) = true then (glebelaw6_DateBack.j0 k (Int.tmod a0 253402300799) true) else (if t272.toList = t267.toList then (if (Op.bytesLess t273.toList t268.toList) = true then (glebelaw6_DateBack.j0 k (Int.tmod a0 253402300799) true) else (if t273.toList = t268.toList then (glebelaw6_DateBack.j0 k (Int.tmod a0 253402300799) true) else (glebelaw6_DateBack.j0 k (Int.tmod a0 253402300799) false))) else (glebelaw6_DateBack.j0 k (Int.tmod a0 253402300799) false))) else (glebelaw6_DateBack.j0 k (Int.tmod a0 253402300799) true)) = some r := by rw [if_pos rfl] at H; exact H
              clear H
              have H := H1
              clear H1
              by_cases c16 : t275 = (IntKind.u64.wrap ((Int.tmod a0 253402300799) + 1))
              · rw [if_pos c16] at H
                have c16b0 : (t275 == (IntKind.u64.wrap ((Int.tmod a0 253402300799) + 1))) = true := beq_iff_eq.mpr c16
                have c16b1 : (t275 != (IntKind.u64.wrap ((Int.tmod a0 253402300799) + 1))) = false := bne_eq_false_iff_eq.mpr c16
                clear c16
                by_cases c17 : (Op.bytesLess t272.toList t267.toList) = true
                · rw [if_pos c17] at H
                  have c17b0 : (Op.bytesLess t272.toList t267.toList) = true := c17
                  clear c17
                  have H' := Aside0.mk H
                  clear H
                  go_wp2
                  go_meet
                  case rel => exact ⟨_, (true), (by first | rfl | (simp only [i64_w]; done) | (simp; done) | (simp [*]; done)), H', ⟨by first | omega | exact Nat.le_refl _⟩, ⟨by repeat (first | (with_reducible first | exact HB.out | apply below_alloc | apply pw_below_drewN | apply below_drew1) | exact HB.out)⟩⟩
                · rw [if_neg c17] at H
                  have c17b0 : (Op.bytesLess t272.toList t267.toList) = false := by simpa using c17
                  clear c17
                  by_cases c18 : t272.toList = t267.toList
                  · rw [if_pos c18] at H
                    have c18b0 : (t272.toList == t267.toList) = true := beq_iff_eq.mpr c18
                    have c18b1 : (t272.toList != t267.toList) = false := bne_eq_false_iff_eq.mpr c18
                    clear c18
                    by_cases c19 : (Op.bytesLess t273.toList t268.toList) = true
                    · rw [if_pos c19] at H
                      have c19b0 : (Op.bytesLess t273.toList t268.toList) = true := c19
                      clear c19
                      have H' := Aside0.mk H
                      clear H
                      go_wp2
                      go_meet
                      case rel => exact ⟨_, (true), (by first | rfl | (simp only [i64_w]; done) | (simp; done) | (simp [*]; done)), H', ⟨by first | omega | exact Nat.le_refl _⟩, ⟨by repeat (first | (with_reducible first | exact HB.out | apply below_alloc | apply pw_below_drewN | apply below_drew1) | exact HB.out)⟩⟩
                    · rw [if_neg c19] at H
                      have c19b0 : (Op.bytesLess t273.toList t268.toList) = false := by simpa using c19
                      clear c19
                      by_cases c20 : t273.toList = t268.toList
                      · rw [if_pos c20] at H
                        have c20b0 : (t273.toList == t268.toList) = true := beq_iff_eq.mpr c20
                        have c20b1 : (t273.toList != t268.toList) = false := bne_eq_false_iff_eq.mpr c20
                        clear c20
                        have H' := Aside0.mk H
                        clear H
                        go_wp2
                        go_meet
                        case rel => exact ⟨_, (true), (by first | rfl | (simp only [i64_w]; done) | (simp; done) | (simp [*]; done)), H', ⟨by first | omega | exact Nat.le_refl _⟩, ⟨by repeat (first | (with_reducible first | exact HB.out | apply below_alloc | apply pw_below_drewN | apply below_drew1) | exact HB.out)⟩⟩
                      · rw [if_neg c20] at H
                        have c20b0 : (t273.toList == t268.toList) = false := beq_eq_false_iff_ne.mpr c20
                        have c20b1 : (t273.toList != t268.toList) = true := bne_iff_ne.mpr c20
                        have H' := Aside0.mk H
                        clear H
                        go_wp2
                        go_meet
                        case rel => exact ⟨_, (false), (by first | rfl | (simp only [i64_w]; done) | (simp; done) | (simp [*]; done)), H', ⟨by first | omega | exact Nat.le_refl _⟩, ⟨by repeat (first | (with_reducible first | exact HB.out | apply below_alloc | apply pw_below_drewN | apply below_drew1) | exact HB.out)⟩⟩
                  · rw [if_neg c18] at H
                    have c18b0 : (t272.toList == t267.toList) = false := beq_eq_false_iff_ne.mpr c18
                    have c18b1 : (t272.toList != t267.toList) = true := bne_iff_ne.mpr c18
                    have H' := Aside0.mk H
                    clear H
                    go_wp2
                    go_meet
                    case rel => exact ⟨_, (false), (by first | rfl | (simp only [i64_w]; done) | (simp; done) | (simp [*]; done)), H', ⟨by first | omega | exact Nat.le_refl _⟩, ⟨by repeat (first | (with_reducible first | exact HB.out | apply below_alloc | apply pw_below_drewN | apply below_drew1) | exact HB.out)⟩⟩
              · rw [if_neg c16] at H
                have c16b0 : (t275 == (IntKind.u64.wrap ((Int.tmod a0 253402300799) + 1))) = false := beq_eq_false_iff_ne.mpr c16
                have c16b1 : (t275 != (IntKind.u64.wrap ((Int.tmod a0 253402300799) + 1))) = true := bne_iff_ne.mpr c16
                have H' := Aside0.mk H
                clear H
                go_wp2
                go_meet
                case rel => exact ⟨_, (true), (by first | rfl | (simp only [i64_w]; done) | (simp; done) | (simp [*]; done)), H', ⟨by first | omega | exact Nat.le_refl _⟩, ⟨by repeat (first | (with_reducible first | exact HB.out | apply below_alloc | apply pw_below_drewN | apply below_drew1) | exact HB.out)⟩⟩
            · replace c15 := Bool.eq_false_iff.mpr c15
              subst c15
              have H1 : (glebelaw6_DateBack.j0 k (Int.tmod a0 253402300799) true) = some r := by rw [if_neg (show ¬ (false = true) by decide)] at H; exact H
              clear H
              have H := H1
              clear H1
              have H' := Aside0.mk H
              clear H
              go_wp2
              go_meet
              case rel => exact ⟨_, (true), (by first | rfl | (simp only [i64_w]; done) | (simp; done) | (simp [*]; done)), H', ⟨by first | omega | exact Nat.le_refl _⟩, ⟨by repeat (first | (with_reducible first | exact HB.out | apply below_alloc | apply pw_below_drewN | apply below_drew1) | exact HB.out)⟩⟩
          · replace c14 := Bool.eq_false_iff.mpr c14
            subst c14
            have H1 : (glebelaw6_DateBack.j0 k (Int.tmod a0 253402300799) true) = some r := by rw [if_neg (show ¬ (false = true) by decide)] at H; exact H
            clear H
            have H := H1
            clear H1
            have H' := Aside0.mk H
            clear H
            go_wp2
            go_meet
            case rel => exact ⟨_, (true), (by first | rfl | (simp only [i64_w]; done) | (simp; done) | (simp [*]; done)), H', ⟨by first | omega | exact Nat.le_refl _⟩, ⟨by repeat (first | (with_reducible first | exact HB.out | apply below_alloc | apply pw_below_drewN | apply below_drew1) | exact HB.out)⟩⟩
        · rw [if_neg c13] at H
          have c13b0 : (t270 == (Int.tmod a0 253402300799)) = false := beq_eq_false_iff_ne.mpr c13
          have c13b1 : (t270 != (Int.tmod a0 253402300799)) = true := bne_iff_ne.mpr c13
          (first | rw [c13b0] | (simp only [i64_w, i32_w]; rw [c13b0]) | skip)
          have H' := Aside0.mk H
          clear H
          go_wp2
          go_meet
          case rel => exact ⟨_, (true), (by first | rfl | (simp only [i64_w]; done) | (simp; done) | (simp [*]; done)), H', ⟨by first | omega | exact Nat.le_refl _⟩, ⟨by repeat (first | (with_reducible first | exact HB.out | apply below_alloc | apply pw_below_drewN | apply below_drew1) | exact HB.out)⟩⟩
      · replace c12 := Bool.eq_false_iff.mpr c12
        subst c12
        have H1 : (glebelaw6_DateBack.j0 k (Int.tmod a0 253402300799) true) = some r := by rw [if_neg (show ¬ (false = true) by decide)] at H; exact H
        clear H
        have H := H1
        clear H1
        have H' := Aside0.mk H
        clear H
        go_wp2
        go_meet
        case rel => exact ⟨_, (true), (by first | rfl | (simp only [i64_w]; done) | (simp; done) | (simp [*]; done)), H', ⟨by first | omega | exact Nat.le_refl _⟩, ⟨by repeat (first | (with_reducible first | exact HB.out | apply below_alloc | apply pw_below_drewN | apply below_drew1) | exact HB.out)⟩⟩
    · replace c11 := Bool.eq_false_iff.mpr c11
      subst c11
      have H1 : (glebelaw6_DateBack.j0 k (Int.tmod a0 253402300799) true) = some r := by rw [if_neg (show ¬ (false = true) by decide)] at H; exact H
      clear H
      have H := H1
      clear H1
      have H' := Aside0.mk H
      clear H
      go_wp2
      go_meet
      case rel => exact ⟨_, (true), (by first | rfl | (simp only [i64_w]; done) | (simp; done) | (simp [*]; done)), H', ⟨by first | omega | exact Nat.le_refl _⟩, ⟨by repeat (first | (with_reducible first | exact HB.out | apply below_alloc | apply pw_below_drewN | apply below_drew1) | exact HB.out)⟩⟩
  case rest =>
    clear HC6
    try clear c1
    try clear c2
    try clear p2
    try clear c6
    try clear c11
    try clear c12
    try clear c13
    try clear c13b0
    try clear c13b1
    try clear c14
    try clear c15
    try clear c16
    try clear c16b0
    try clear c16b1
    try clear c17
    try clear c17b0
    try clear c18
    try clear c18b0
    try clear c18b1
    try clear c19
    try clear c19b0
    try clear c20
    try clear c20b0
    try clear c20b1
    obtain ⟨kq, x83_5, rfl, HA, HJ5, HB⟩ := hcut
    cases kq with
    | zero => exact absurd HA.out (by simp [glebelaw6_DateBack.j0])
    | succ kj5 =>
      have H := HA.out
      clear HA
      simp only [glebelaw6_DateBack.j0] at H
      by_cases c21 : x83_5 = true
      · subst c21
        have H1 : (none) = some r := by rw [if_pos rfl] at H; exact H
        clear H
        have H := H1
        clear H1
        exact absurd H (by simp)
      · replace c21 := Bool.eq_false_iff.mpr c21
        subst c21
        have H1 : ((date_Text.f (Int.tmod a0 253402300799)).bind fun t277 => ((date_Num.f kj5 t277 (Int.tmod a0 253402300799)).bind fun bt278 => ((date_Text.f (IntKind.u64.wrap ((Int.tmod a0 253402300799) + 1))).bind fun t280 => ((date_Num.f kj5 t280 (Int.tmod a0 253402300799)).bind fun bt281 => (if bt278.2 = true then (if bt278.1 = (Int.tmod a0 253402300799) then (if bt281.2 = true then (none) else ((date_Week.f (Int.tmod a0 253402300799)).bind fun t283 => ((date_Week.f (IntKind.u64.wrap ((Int.tmod a0 253402300799) + 86400))).bind fun t284 => (if (Int.tmod (wrap64 (t283 + 1)) 7) = t284 then ((glebelaw6_awake.f kj5).bind fun t285 => (some t285)) else (none))))) else (none)) else (none)))))) = some r := by rw [if_neg (show ¬ (false = true) by decide)] at H; exact H
        clear H
        have H := H1
        clear H1
        replace H := Option.bind_eq_some_iff.mp H
        obtain ⟨t277, A220, H⟩ := H
        replace H : ((date_Num.f kj5 t277 (Int.tmod a0 253402300799)).bind fun bt278 => ((date_Text.f (IntKind.u64.wrap ((Int.tmod a0 253402300799) + 1))).bind fun t280 => ((date_Num.f kj5 t280 (Int.tmod a0 253402300799)).bind fun bt281 => (if bt278.2 = true then (if bt278.1 = (Int.tmod a0 253402300799) then (if bt281.2 = true then (none) else ((date_Week.f (Int.tmod a0 253402300799)).bind fun t283 => ((date_Week.f (IntKind.u64.wrap ((Int.tmod a0 253402300799) + 86400))).bind fun t284 => (if (Int.tmod (wrap64 (t283 + 1)) 7) = t284 then ((glebelaw6_awake.f kj5).bind fun t285 => (some t285)) else (none))))) else (none)) else (none))))) = some r := H
        have A22 := Aside0.mk A220
        clear A220
        replace H := Option.bind_eq_some_iff.mp H
        obtain ⟨⟨t278, t279⟩, A230, H⟩ := H
        replace H : ((date_Text.f (IntKind.u64.wrap ((Int.tmod a0 253402300799) + 1))).bind fun t280 => ((date_Num.f kj5 t280 (Int.tmod a0 253402300799)).bind fun bt281 => (if t279 = true then (if t278 = (Int.tmod a0 253402300799) then (if bt281.2 = true then (none) else ((date_Week.f (Int.tmod a0 253402300799)).bind fun t283 => ((date_Week.f (IntKind.u64.wrap ((Int.tmod a0 253402300799) + 86400))).bind fun t284 => (if (Int.tmod (wrap64 (t283 + 1)) 7) = t284 then ((glebelaw6_awake.f kj5).bind fun t285 => (some t285)) else (none))))) else (none)) else (none)))) = some r := H
        have A23 := Aside0.mk A230
        clear A230
        replace H := Option.bind_eq_some_iff.mp H
        obtain ⟨t280, A240, H⟩ := H
        replace H : ((date_Num.f kj5 t280 (Int.tmod a0 253402300799)).bind fun bt281 => (if t279 = true then (if t278 = (Int.tmod a0 253402300799) then (if bt281.2 = true then (none) else ((date_Week.f (Int.tmod a0 253402300799)).bind fun t283 => ((date_Week.f (IntKind.u64.wrap ((Int.tmod a0 253402300799) + 86400))).bind fun t284 => (if (Int.tmod (wrap64 (t283 + 1)) 7) = t284 then ((glebelaw6_awake.f kj5).bind fun t285 => (some t285)) else (none))))) else (none)) else (none))) = some r := H
        have A24 := Aside0.mk A240
        clear A240
        replace H := Option.bind_eq_some_iff.mp H
        obtain ⟨⟨t281, t282⟩, A250, H⟩ := H
        replace H : (if t279 = true then (if t278 = (Int.tmod a0 253402300799) then (if t282 = true then (none) else ((date_Week.f (Int.tmod a0 253402300799)).bind fun t283 => ((date_Week.f (IntKind.u64.wrap ((Int.tmod a0 253402300799) + 86400))).bind fun t284 => (if (Int.tmod (wrap64 (t283 + 1)) 7) = t284 then ((glebelaw6_awake.f kj5).bind fun t285 => (some t285)) else (none))))) else (none)) else (none)) = some r := H
        have A25 := Aside0.mk A250
        clear A250
        by_cases c26 : t279 = true
        · subst c26
          have H1 : (if t278 = (Int.tmod a0 253402300799) then (if t282 = true then (none) else ((date_Week.f (Int.tmod a0 253402300799)).bind fun t283 => ((date_Week.f (IntKind.u64.wrap ((Int.tmod a0 253402300799) + 86400))).bind fun t284 => (if (Int.tmod (wrap64 (t283 + 1)) 7) = t284 then ((glebelaw6_awake.f kj5).bind fun t285 => (some t285)) else (none))))) else (none)) = some r := by rw [if_pos rfl] at H; exact H
          clear H
          have H := H1
          clear H1
          by_cases c27 : t278 = (Int.tmod a0 253402300799)
          · rw [if_pos c27] at H
            have c27b0 : (t278 == (Int.tmod a0 253402300799)) = true := beq_iff_eq.mpr c27
            have c27b1 : (t278 != (Int.tmod a0 253402300799)) = false := bne_eq_false_iff_eq.mpr c27
            clear c27
            by_cases c28 : t282 = true
            · subst c28
              have H1 : (none) = some r := by rw [if_pos rfl] at H; exact H
              clear H
              have H := H1
              clear H1
              exact absurd H (by simp)
            · replace c28 := Bool.eq_false_iff.mpr c28
              subst c28
              have H1 : ((date_Week.f (Int.tmod a0 253402300799)).bind fun t283 => ((date_Week.f (IntKind.u64.wrap ((Int.tmod a0 253402300799) + 86400))).bind fun t284 => (if (Int.tmod (wrap64 (t283 + 1)) 7) = t284 then ((glebelaw6_awake.f kj5).bind fun t285 => (some t285)) else (none)))) = some r := by rw [if_neg (show ¬ (false = true) by decide)] at H; exact H
              clear H
              have H := H1
              clear H1
              replace H := Option.bind_eq_some_iff.mp H
              obtain ⟨t283, A290, H⟩ := H
              replace H : ((date_Week.f (IntKind.u64.wrap ((Int.tmod a0 253402300799) + 86400))).bind fun t284 => (if (Int.tmod (wrap64 (t283 + 1)) 7) = t284 then ((glebelaw6_awake.f kj5).bind fun t285 => (some t285)) else (none))) = some r := H
              have A29 := Aside0.mk A290
              clear A290
              replace H := Option.bind_eq_some_iff.mp H
              obtain ⟨t284, A300, H⟩ := H
              replace H : (if (Int.tmod (wrap64 (t283 + 1)) 7) = t284 then ((glebelaw6_awake.f kj5).bind fun t285 => (some t285)) else (none)) = some r := H
              have A30 := Aside0.mk A300
              clear A300
              by_cases c31 : (Int.tmod (wrap64 (t283 + 1)) 7) = t284
              · rw [if_pos c31] at H
                have c31b0 : ((Int.tmod (wrap64 (t283 + 1)) 7) == t284) = true := beq_iff_eq.mpr c31
                have c31b1 : ((Int.tmod (wrap64 (t283 + 1)) 7) != t284) = false := bne_eq_false_iff_eq.mpr c31
                clear c31
                replace H := Option.bind_eq_some_iff.mp H
                obtain ⟨t285, A320, H⟩ := H
                replace H : (some t285) = some r := H
                have A32 := Aside0.mk A320
                clear A320
                obtain rfl := Option.some.inj H
                go_wp2_with (first | ((with_reducible refine gate_callee (f := 19) rfl ?_); refine goesL_ (some 86) rfl rfl Tryd.func19 (by kernel_rfl) rfl #[.int .u64 (Int.tmod a0 253402300799)] rfl (by (try simp only [List.map_toArray, List.map_cons, List.map_nil]); first | done | rfl | (simp only [List.length_drop, List.length_take]; rfl)) ?_; (with_reducible refine (date_Text.calls (Int.tmod a0 253402300799) t277 _ ?side1 A22.out).mono ?_); (case side1 => exact XT.Tabs.below hTab (by repeat (first | (with_reducible first | exact HB.out | apply below_alloc | apply pw_below_drewN | apply below_drew1) | exact HB.out))); rintro e w33 ⟨rfl, hb⟩; refine ⟨_, rfl, ?_⟩; have n0_ := Aside0.mk (below_step (by repeat (first | (with_reducible first | exact HB.out | apply below_alloc | apply pw_below_drewN | apply below_drew1) | exact HB.out)) hb); clear HB; have HB := n0_; clear n0_; (try clear hb); (try clear hb2); (try clear hk); (try clear hi)) | ((with_reducible refine gate_callee (f := 20) rfl ?_); refine goesL_ (some 88) rfl rfl Tryd.func20 (by kernel_rfl) rfl #[.string t277, .int .u64 (Int.tmod a0 253402300799)] rfl (by (try simp only [List.map_toArray, List.map_cons, List.map_nil]); first | done | rfl | (simp only [List.length_drop, List.length_take]; rfl)) ?_; (with_reducible refine (date_Num.calls kj5 t277 (Int.tmod a0 253402300799) t278 true _ A23.out).mono ?_); rintro e w34 ⟨rfl, hb⟩; refine ⟨_, rfl, ?_⟩; have n0_ := Aside0.mk (below_step (by repeat (first | (with_reducible first | exact HB.out | apply below_alloc | apply pw_below_drewN | apply below_drew1) | exact HB.out)) hb); clear HB; have HB := n0_; clear n0_; (try clear hb); (try clear hb2); (try clear hk); (try clear hi)) | ((with_reducible refine gate_callee (f := 19) rfl ?_); refine goesL_ (some 94) rfl rfl Tryd.func19 (by kernel_rfl) rfl #[.int .u64 (IntKind.u64.wrap ((Int.tmod a0 253402300799) + 1))] rfl (by (try simp only [List.map_toArray, List.map_cons, List.map_nil]); first | done | rfl | (simp only [List.length_drop, List.length_take]; rfl)) ?_; (with_reducible refine (date_Text.calls (IntKind.u64.wrap ((Int.tmod a0 253402300799) + 1)) t280 _ ?side1 A24.out).mono ?_); (case side1 => exact XT.Tabs.below hTab (by repeat (first | (with_reducible first | exact HB.out | apply below_alloc | apply pw_below_drewN | apply below_drew1) | exact HB.out))); rintro e w35 ⟨rfl, hb⟩; refine ⟨_, rfl, ?_⟩; have n0_ := Aside0.mk (below_step (by repeat (first | (with_reducible first | exact HB.out | apply below_alloc | apply pw_below_drewN | apply below_drew1) | exact HB.out)) hb); clear HB; have HB := n0_; clear n0_; (try clear hb); (try clear hb2); (try clear hk); (try clear hi)) | ((with_reducible refine gate_callee (f := 20) rfl ?_); refine goesL_ (some 96) rfl rfl Tryd.func20 (by kernel_rfl) rfl #[.string t280, .int .u64 (Int.tmod a0 253402300799)] rfl (by (try simp only [List.map_toArray, List.map_cons, List.map_nil]); first | done | rfl | (simp only [List.length_drop, List.length_take]; rfl)) ?_; (with_reducible refine (date_Num.calls kj5 t280 (Int.tmod a0 253402300799) t281 false _ A25.out).mono ?_); rintro e w36 ⟨rfl, hb⟩; refine ⟨_, rfl, ?_⟩; have n0_ := Aside0.mk (below_step (by repeat (first | (with_reducible first | exact HB.out | apply below_alloc | apply pw_below_drewN | apply below_drew1) | exact HB.out)) hb); clear HB; have HB := n0_; clear n0_; (try clear hb); (try clear hb2); (try clear hk); (try clear hi)) | (go_at_call 18; (with_reducible refine (date_Week.calls (Int.tmod a0 253402300799) t283 _ A29.out).mono ?_); rintro e w' ⟨rfl, ⟨nd, rfl⟩⟩) | (go_at_call 18; (with_reducible refine (date_Week.calls (IntKind.u64.wrap ((Int.tmod a0 253402300799) + 86400)) t284 _ A30.out).mono ?_); rintro e w' ⟨rfl, ⟨nd, rfl⟩⟩) | (go_at_call 16; (with_reducible refine (glebelaw6_awake.calls kj5  t285 _ ?side1 A32.out).mono ?_); (case side1 => exact XT.Tabs.below hTab (by repeat (first | (with_reducible first | exact HB.out | apply below_alloc | apply pw_below_drewN | apply below_drew1) | exact HB.out))); rintro e w37 ⟨rfl, hb⟩; have n0_ := Aside0.mk (below_step (by repeat (first | (with_reducible first | exact HB.out | apply below_alloc | apply pw_below_drewN | apply below_drew1) | exact HB.out)) hb); clear HB; have HB := n0_; clear n0_; (try clear hb); (try clear hb2); (try clear hk); (try clear hi)))
                go_ret
                exact ⟨by first | rfl | (simp [errW_none, errW_some] <;> rfl) | (simp [*, errW_none, errW_some] <;> rfl), by repeat (first | (with_reducible first | exact HB.out | apply below_alloc | apply pw_below_drewN | apply below_drew1) | exact HB.out)⟩
              · rw [if_neg c31] at H
                exact absurd H (by simp)
          · rw [if_neg c27] at H
            exact absurd H (by simp)
        · replace c26 := Bool.eq_false_iff.mpr c26
          subst c26
          have H1 : (none) = some r := by rw [if_neg (show ¬ (false = true) by decide)] at H; exact H
          clear H
          have H := H1
          clear H1
          exact absurd H (by simp)

/-- THE ONE PURE STATEMENT of glebelaw6_DateBack: yours. -/
def glebelaw6_DateBack.Pure : Prop := ∀ (a0 : Int), (Lit.int .u64 a0).wf = true → ∃ k, glebelaw6_DateBack.f k a0 = some true
theorem glebelaw6_DateBack.walk (P : glebelaw6_DateBack.Pure) (a0 : Int) (w : World) (w0 : (Lit.int .u64 a0).wf = true) (hTab : XT.Tabs w) :
    Calls Tryd.prog 6 #[.int .u64 a0] w fun e w' => e = .returned (.bool true) ∧ Below w.heap.size w w' := by
  obtain ⟨k, h⟩ := P a0 w0
  refine (glebelaw6_DateBack.calls k a0 true w hTab h).mono ?_
  rintro e w' ⟨rfl, hd⟩
  exact ⟨rfl, hd⟩

end Go.Proofs.YtcgchblljhbdaaaDoor.Z
