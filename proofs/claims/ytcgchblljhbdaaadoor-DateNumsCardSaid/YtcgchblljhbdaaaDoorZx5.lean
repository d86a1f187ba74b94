-- Printed by this session's own program (wip/xprint) out of the translation. Lean checks it.
import Derived.Test.YtcgchblljhbdaaaDoorZx0
import Derived.Test.YtcgchblljhbdaaaDoorZx2
import Derived.Test.YtcgchblljhbdaaaDoorZx3
namespace Go.Proofs.YtcgchblljhbdaaaDoor.Z
open Go.Proofs.YtcgchblljhbdaaaDoor
open Go.RowKit Go.Proofs.YtcgchblljhbdaaaDoorW.PrintWords Go.Proofs.YtcgchblljhbdaaaDoorW.PrintLast Go.Proofs.YtcgchblljhbdaaaDoorW.PrintMore
attribute [local go_sem] max2_int min2_int max_two min_two max_three min_three max_four min_four   -- for this text's walks alone
set_option linter.unusedVariables false
set_option linter.unusedSimpArgs false

/-! ### glebelaw6_DateNums: function 4 -/
def glebelaw6_DateNums.l0 : Nat → Int → Int → Int → ByteArray → Int → Bool → ByteArray → Int → Option (Bool)
  | 0, _, _, _, _, _, _, _, _ => none
  | k + 1, x0, x1, x2, x7, x8, x9, x10, x11 => if x11 < (wrap64 ((Go.bits .and .i64 x2 3) + 1)) then (if x10.size + 1 ≤ 9223372036854775807 then (glebelaw6_DateNums.l0 k x0 x1 x2 x7 x8 x9 (x10 ++ (⟨#[48]⟩ : ByteArray)) (wrap64 (x11 + 1))) else (none)) else (if x10.size + x7.size ≤ 9223372036854775807 then ((date_Num.f k (x10 ++ x7) 18446744073709551615).bind fun bt172 => (if 1 + x7.size ≤ 9223372036854775807 then ((date_Num.f k ((⟨#[43]⟩ : ByteArray) ++ x7) 18446744073709551615).bind fun bt174 => ((date_Num.f k (⟨#[]⟩ : ByteArray) 18446744073709551615).bind fun bt176 => ((date_Num.f k x7 x0).bind fun bt178 => (if x7.size + 20 ≤ 9223372036854775807 then ((date_Num.f k (x7 ++ (⟨#[48, 48, 48, 48, 48, 48, 48, 48, 48, 48, 48, 48, 48, 48, 48, 48, 48, 48, 48, 48]⟩ : ByteArray)) 18446744073709551615).bind fun bt180 => (if x0 = 0 then (if x7.toList = ([48] : List UInt8) then (if x9 = true then (if x8 = 0 then (if bt172.2 = true then (none) else (if bt174.2 = true then (none) else (if bt176.2 = true then (none) else (if bt178.2 = true then (if bt180.2 = true then (none) else ((glebelaw6_awake.f k).bind fun t182 => (some t182))) else (none))))) else (none)) else (none)) else (none)) else (if (x9 == (decide (x0 ≤ x1))) = true then (if x9 = true then (if x8 = x0 then (if bt172.2 = true then (none) else (if bt174.2 = true then (none) else (if bt176.2 = true then (none) else (if bt178.2 = true then (if bt178.1 = x0 then (if bt180.2 = true then (none) else (if (x7.size : Int) > 0 then (if 0 < (x7.size : Int) then (if (bt x7 0) = 48 then (none) else ((glebelaw6_awake.f k).bind fun t183 => (some t183))) else (none)) else (none))) else (none)) else (none))))) else (none)) else (if x8 = 0 then (if bt172.2 = true then (none) else (if bt174.2 = true then (none) else (if bt176.2 = true then (none) else (if bt178.2 = true then (if bt178.1 = x0 then (if bt180.2 = true then (none) else (if (x7.size : Int) > 0 then (if 0 < (x7.size : Int) then (if (bt x7 0) = 48 then (none) else ((glebelaw6_awake.f k).bind fun t184 => (some t184))) else (none)) else (none))) else (none)) else (none))))) else (none))) else (none)))) else (none))))) else (none))) else (none))
def glebelaw6_DateNums.f (k : Nat) (a0 : Int) (a1 : Int) (a2 : Int) : Option (Bool) := (date_Text.f a0).bind fun t169 => ((date_Num.f k t169 a1).bind fun bt170 => (glebelaw6_DateNums.l0 k a0 a1 a2 t169 bt170.1 bt170.2 (⟨#[]⟩ : ByteArray) 0))
theorem glebelaw6_DateNums.mono_l : ∀ k, (∀ y0 y1 y2 y3 y4 y5 y6 y7, LeO (glebelaw6_DateNums.l0 k y0 y1 y2 y3 y4 y5 y6 y7) (glebelaw6_DateNums.l0 (k + 1) y0 y1 y2 y3 y4 y5 y6 y7))
  | 0 => fun _ _ _ _ _ _ _ _ r h => by simp [glebelaw6_DateNums.l0] at h
  | k + 1 => by
    have ih0 := glebelaw6_DateNums.mono_l k
    · intro y0 y1 y2 y3 y4 y5 y6 y7
      unfold glebelaw6_DateNums.l0
      repeat' first
      | (with_reducible exact ih0 _ _ _ _ _ _ _ _)
      | (with_reducible exact date_Num.mono _ _ _)
      | (with_reducible exact glebelaw6_awake.mono _)
      | (with_reducible exact LeO.refl _)
      | (with_reducible exact LeO.none _)
      | (with_reducible refine LeO.ite ?_ ?_)
      | (with_reducible refine LeO.bind ?_ (fun _ => ?_))
      | exact ih0 _ _ _ _ _ _ _ _
      | exact date_Num.mono _ _ _
      | exact glebelaw6_awake.mono _
      | exact LeO.none _
      | refine LeO.ite ?_ ?_
      | refine LeO.bind ?_ (fun _ => ?_)
theorem glebelaw6_DateNums.mono : ∀ a0 a1 a2 k, LeO (glebelaw6_DateNums.f k a0 a1 a2) (glebelaw6_DateNums.f (k + 1) a0 a1 a2) := by
  intro a0 a1 a2 k
  have ih0 := glebelaw6_DateNums.mono_l k
  unfold glebelaw6_DateNums.f
  repeat' first
      | (with_reducible exact ih0 _ _ _ _ _ _ _ _)
      | (with_reducible exact date_Num.mono _ _ _)
      | (with_reducible exact glebelaw6_awake.mono _)
      | (with_reducible exact LeO.refl _)
      | (with_reducible exact LeO.none _)
      | (with_reducible refine LeO.ite ?_ ?_)
      | (with_reducible refine LeO.bind ?_ (fun _ => ?_))
      | exact ih0 _ _ _ _ _ _ _ _
      | exact date_Num.mono _ _ _
      | exact glebelaw6_awake.mono _
      | exact LeO.none _
      | refine LeO.ite ?_ ?_
      | refine LeO.bind ?_ (fun _ => ?_)
set_option maxHeartbeats 8000000 in
set_option maxRecDepth 100000 in
theorem glebelaw6_DateNums.calls (k : Nat) (a0 : Int) (a1 : Int) (a2 : Int) (r : Bool) (w : World) (hTab : XT.Tabs w) (h : glebelaw6_DateNums.f k a0 a1 a2 = some r) :
    Calls Tryd.prog 4 #[.int .u64 a0, .int .u64 a1, .int .i64 a2] w fun e w' => e = .returned (.bool r) ∧ Below w.heap.size w w' := by
  have HB := Aside0.mk (Below.refl w.heap.size w)
  have H : ((date_Text.f a0).bind fun t169 => ((date_Num.f k t169 a1).bind fun bt170 => (glebelaw6_DateNums.l0 k a0 a1 a2 t169 bt170.1 bt170.2 (⟨#[]⟩ : ByteArray) 0))) = some r := h
  clear h
  replace H := Option.bind_eq_some_iff.mp H
  obtain ⟨t169, A40, H⟩ := H
  replace H : ((date_Num.f k t169 a1).bind fun bt170 => (glebelaw6_DateNums.l0 k a0 a1 a2 t169 bt170.1 bt170.2 (⟨#[]⟩ : ByteArray) 0)) = some r := H
  have A4 := Aside0.mk A40
  clear A40
  replace H := Option.bind_eq_some_iff.mp H
  obtain ⟨⟨t170, t171⟩, A50, H⟩ := H
  replace H : (glebelaw6_DateNums.l0 k a0 a1 a2 t169 t170 t171 (⟨#[]⟩ : ByteArray) 0) = some r := H
  have A5 := Aside0.mk A50
  clear A50
  have H' := Aside0.mk H
  clear H
  go_enter Tryd.func4, Tryd.ntmps4
  go_wp2_with (first | ((with_reducible refine gate_callee (f := 19) rfl ?_); refine goesL_ (some 23) rfl rfl Tryd.func19 (by kernel_rfl) rfl #[.int .u64 a0] rfl (by (try simp only [List.map_toArray, List.map_cons, List.map_nil]); first | done | rfl | (simp only [List.length_drop, List.length_take]; rfl)) ?_; (with_reducible refine (date_Text.calls a0 t169 _ ?side1 A4.out).mono ?_); (case side1 => exact XT.Tabs.below hTab (by repeat (first | (with_reducible first | exact HB.out | apply below_alloc | apply pw_below_drewN | apply below_drew1) | exact HB.out))); rintro e w6 ⟨rfl, hb⟩; refine ⟨_, rfl, ?_⟩; have n0_ := Aside0.mk (below_step (by repeat (first | (with_reducible first | exact HB.out | apply below_alloc | apply pw_below_drewN | apply below_drew1) | exact HB.out)) hb); clear HB; have HB := n0_; clear n0_; (try clear hb); (try clear hb2); (try clear hk); (try clear hi)) | ((with_reducible refine gate_callee (f := 20) rfl ?_); refine goesL_ (some 27) rfl rfl Tryd.func20 (by kernel_rfl) rfl #[.string t169, .int .u64 a1] rfl (by (try simp only [List.map_toArray, List.map_cons, List.map_nil]); first | done | rfl | (simp only [List.length_drop, List.length_take]; rfl)) ?_; (with_reducible refine (date_Num.calls k t169 a1 t170 t171 _ A5.out).mono ?_); rintro e w7 ⟨rfl, hb⟩; refine ⟨_, rfl, ?_⟩; have n0_ := Aside0.mk (below_step (by repeat (first | (with_reducible first | exact HB.out | apply below_alloc | apply pw_below_drewN | apply below_drew1) | exact HB.out)) hb); clear HB; have HB := n0_; clear n0_; (try clear hb); (try clear hb2); (try clear hk); (try clear hi)))
  go_loopg [10, 11] k (fun kq v10 v11 w' => ∃ (x10_1 : ByteArray) (x11_1 : Int), v10 = .string x10_1 ∧ v11 = .int .i64 x11_1 ∧ Aside0 (glebelaw6_DateNums.l0 kq a0 a1 a2 t169 t170 t171 x10_1 x11_1 = some r) ∧ Aside0 (kq ≤ k) ∧ Aside0 (Below w.heap.size w w'))
  case atStart => exact ⟨((⟨#[]⟩ : ByteArray)), (0), (by first | rfl | (simp only [i64_w]; done) | (simp; done) | (simp [*]; done)), (by first | rfl | (simp only [i64_w]; done) | (simp; done) | (simp [*]; done)), H', ⟨Nat.le_refl _⟩, ⟨by repeat (first | (with_reducible first | exact HB.out | apply below_alloc | apply pw_below_drewN | apply below_drew1) | exact HB.out)⟩⟩
  case round =>
    clear H'
    try clear c1
    try clear c2
    try clear p2
    try clear c4
    obtain ⟨x10_1, x11_1, rfl, rfl, HA, HK1, HB⟩ := hrel
    cases gk with
    | zero => exact absurd HA.out (by simp [glebelaw6_DateNums.l0])
    | succ k1 =>
      have H := HA.out
      clear HA
      simp only [glebelaw6_DateNums.l0] at H
      by_cases c8 : x11_1 < (wrap64 ((Go.bits .and .i64 a2 3) + 1))
      · rw [if_pos c8] at H
        have c8b0 : decide (x11_1 < (wrap64 ((Go.bits .and .i64 a2 3) + 1))) = true := decide_eq_true c8
        clear c8
        by_cases c9 : x10_1.size + 1 ≤ 9223372036854775807
        · rw [if_pos c9] at H
          have c9b0 := eq_true c9
          have c9b1 : decide (x10_1.size + 1 ≤ 9223372036854775807) = true := decide_eq_true c9
          try have c9b2 : (9223372036854775807 < x10_1.size + 1) = False := eq_false (Nat.not_lt.2 c9)
          have H' := Aside0.mk H
          clear H
          go_wp2
          go_roundg k1
          case measure => have := HK1.out; omega
          case rel => exact ⟨(x10_1 ++ (⟨#[48]⟩ : ByteArray)), (wrap64 (x11_1 + 1)), (by first | rfl | (simp only [i64_w]; done) | (simp; done) | (simp [*]; done)), (by first | rfl | (simp only [i64_w]; done) | (simp; done) | (simp [*]; done)), H', ⟨by have := HK1.out; omega⟩, ⟨by repeat (first | (with_reducible first | exact HB.out | apply below_alloc | apply pw_below_drewN | apply below_drew1) | exact HB.out)⟩⟩
        · rw [if_neg c9] at H
          exact absurd H (by simp)
      · rw [if_neg c8] at H
        have c8b0 : decide (x11_1 < (wrap64 ((Go.bits .and .i64 a2 3) + 1))) = false := decide_eq_false c8
        clear c8
        by_cases c10 : x10_1.size + t169.size ≤ 9223372036854775807
        · rw [if_pos c10] at H
          have c10b0 := eq_true c10
          have c10b1 : decide (x10_1.size + t169.size ≤ 9223372036854775807) = true := decide_eq_true c10
          try have c10b2 : (9223372036854775807 < x10_1.size + t169.size) = False := eq_false (Nat.not_lt.2 c10)
          replace H := Option.bind_eq_some_iff.mp H
          obtain ⟨⟨t172, t173⟩, A110, H⟩ := H
          replace H : (if 1 + t169.size ≤ 9223372036854775807 then ((date_Num.f k1 ((⟨#[43]⟩ : ByteArray) ++ t169) 18446744073709551615).bind fun bt174 => ((date_Num.f k1 (⟨#[]⟩ : ByteArray) 18446744073709551615).bind fun bt176 => ((date_Num.f k1 t169 a0).bind fun bt178 => (if t169.size + 20 ≤ 9223372036854775807 then ((date_Num.f k1 (t169 ++ (⟨#[48, 48, 48, 48, 48, 48, 48, 48, 48, 48, 48, 48, 48, 48, 48, 48, 48, 48, 48, 48]⟩ : ByteArray)) 18446744073709551615).bind fun bt180 => (if a0 = 0 then (if t169.toList = ([48] : List UInt8) then (if t171 = true then (if t170 = 0 then (if t173 = true then (none) else (if bt174.2 = true then (none) else (if bt176.2 = true then (none) else (if bt178.2 = true then (if bt180.2 = true then (none) else ((glebelaw6_awake.f k1).bind fun t182 => (some t182))) else (none))))) else (none)) else (none)) else (none)) else (if (t171 == (decide (a0 ≤ a1))) = true then (if t171 = true then (if t170 = a0 then (if t173 = true then (none) else (if bt174.2 = true then (none) else (if bt176.2 = true then (none) else (if bt178.2 = true then (if bt178.1 = a0 then (if bt180.2 = true then (none) else (if (t169.size : Int) > 0 then (if 0 < (t169.size : Int) then (if (bt t169 0) = 48 then (none) else ((glebelaw6_awake.f k1).bind fun t183 => (some t183))) else (none)) else (none))) else (none)) else (none))))) else (none)) else (if t170 = 0 then (if t173 = true then (none) else (if bt174.2 = true then (none) else (if bt176.2 = true then (none) else (if bt178.2 = true then (if bt178.1 = a0 then (if bt180.2 = true then (none) else (if (t169.size : Int) > 0 then (if 0 < (t169.size : Int) then (if (bt t169 0) = 48 then (none) else ((glebelaw6_awake.f k1).bind fun t184 => (some t184))) else (none)) else (none))) else (none)) else (none))))) else (none))) else (none)))) else (none))))) else (none)) = some r := H
          have A11 := Aside0.mk A110
          clear A110
          by_cases c12 : 1 + t169.size ≤ 9223372036854775807
          · rw [if_pos c12] at H
            have c12b0 := eq_true c12
            have c12b1 : decide (1 + t169.size ≤ 9223372036854775807) = true := decide_eq_true c12
            try have c12b2 : (9223372036854775807 < 1 + t169.size) = False := eq_false (Nat.not_lt.2 c12)
            replace H := Option.bind_eq_some_iff.mp H
            obtain ⟨⟨t174, t175⟩, A130, H⟩ := H
            replace H : ((date_Num.f k1 (⟨#[]⟩ : ByteArray) 18446744073709551615).bind fun bt176 => ((date_Num.f k1 t169 a0).bind fun bt178 => (if t169.size + 20 ≤ 9223372036854775807 then ((date_Num.f k1 (t169 ++ (⟨#[48, 48, 48, 48, 48, 48, 48, 48, 48, 48, 48, 48, 48, 48, 48, 48, 48, 48, 48, 48]⟩ : ByteArray)) 18446744073709551615).bind fun bt180 => (if a0 = 0 then (if t169.toList = ([48] : List UInt8) then (if t171 = true then (if t170 = 0 then (if t173 = true then (none) else (if t175 = true then (none) else (if bt176.2 = true then (none) else (if bt178.2 = true then (if bt180.2 = true then (none) else ((glebelaw6_awake.f k1).bind fun t182 => (some t182))) else (none))))) else (none)) else (none)) else (none)) else (if (t171 == (decide (a0 ≤ a1))) = true then (if t171 = true then (if t170 = a0 then (if t173 = true then (none) else (if t175 = true then (none) else (if bt176.2 = true then (none) else (if bt178.2 = true then (if bt178.1 = a0 then (if bt180.2 = true then (none) else (if (t169.size : Int) > 0 then (if 0 < (t169.size : Int) then (if (bt t169 0) = 48 then (none) else ((glebelaw6_awake.f k1).bind fun t183 => (some t183))) else (none)) else (none))) else (none)) else (none))))) else (none)) else (if t170 = 0 then (if t173 = true then (none) else (if t175 = true then (none) else (if bt176.2 = true then (none) else (if bt178.2 = true then (if bt178.1 = a0 then (if bt180.2 = true then (none) else (if (t169.size : Int) > 0 then (if 0 < (t169.size : Int) then (if (bt t169 0) = 48 then (none) else ((glebelaw6_awake.f k1).bind fun t184 => (some t184))) else (none)) else (none))) else (none)) else (none))))) else (none))) else (none)))) else (none)))) = some r := H
            have A13 := Aside0.mk A130
            clear A130
            replace H := Option.bind_eq_some_iff.mp H
            obtain ⟨⟨t176, t177⟩, A140, H⟩ := H
            replace H : ((date_Num.f k1 t169 a0).bind fun bt178 => (if t169.size + 20 ≤ 9223372036854775807 then ((date_Num.f k1 (t169 ++ (⟨#[48, 48, 48, 48, 48, 48, 48, 48, 48, 48, 48, 48, 48, 48, 48, 48, 48, 48, 48, 48]⟩ : ByteArray)) 18446744073709551615).bind fun bt180 => (if a0 = 0 then (if t169.toList = ([48] : List UInt8) then (if t171 = true then (if t170 = 0 then (if t173 = true then (none) else (if t175 = true then (none) else (if t177 = true then (none) else (if bt178.2 = true then (if bt180.2 = true then (none) else ((glebelaw6_awake.f k1).bind fun t182 => (some t182))) else (none))))) else (none)) else (none)) else (none)) else (if (t171 == (decide (a0 ≤ a1))) = true then (if t171 = true then (if t170 = a0 then (if t173 = true then (none) else (if t175 = true then (none) else (if t177 = true then (none) else (if bt178.2 = true then (if bt178.1 = a0 then (if bt180.2 = true then (none) else (if (t169.size : Int) > 0 then (if 0 < (t169.size : Int) then (if (bt t169 0) = 48 then (none) else ((glebelaw6_awake.f k1).bind fun t183 => (some t183))) else (none)) else (none))) else (none)) else (none))))) else (none)) else (if t170 = 0 then (if t173 = true then (none) else (if t175 = true then (none) else (if t177 = true then (none) else (if bt178.2 = true then (if bt178.1 = a0 then (if bt180.2 = true then (none) else (if (t169.size : Int) > 0 then (if 0 < (t169.size : Int) then (if (bt t169 0) = 48 then (none) else ((glebelaw6_awake.f k1).bind fun t184 => (some t184))) else (none)) else (none))) else (none)) else (none))))) else (none))) else (none)))) else (none))) = some r := H
            have A14 := Aside0.mk A140
            clear A140
            replace H := Option.bind_eq_some_iff.mp H
            obtain ⟨⟨t178, t179⟩, A150, H⟩ := H
            replace H : (if t169.size + 20 ≤ 9223372036854775807 then ((date_Num.f k1 (t169 ++ (⟨#[48, 48, 48, 48, 48, 48, 48, 48, 48, 48, 48, 48, 48, 48, 48, 48, 48, 48, 48, 48]⟩ : ByteArray)) 18446744073709551615).bind fun bt180 => (if a0 = 0 then (if t169.toList = ([48] : List UInt8) then (if t171 = true then (if t170 = 0 then (if t173 = true then (none) else (if t175 = true then (none) else (if t177 = true then (none) else (if t179 = true then (if bt180.2 = true then (none) else ((glebelaw6_awake.f k1).bind fun t182 => (some t182))) else (none))))) else (none)) else (none)) else (none)) else (if (t171 == (decide (a0 ≤ a1))) = true then (if t171 = true then (if t170 = a0 then (if t173 = true then (none) else (if t175 = true then (none) else (if t177 = true then (none) else (if t179 = true then (if t178 = a0 then (if bt180.2 = true then (none) else (if (t169.size : Int) > 0 then (if 0 < (t169.size : Int) then (if (bt t169 0) = 48 then (none) else ((glebelaw6_awake.f k1).bind fun t183 => (some t183))) else (none)) else (none))) else (none)) else (none))))) else (none)) else (if t170 = 0 then (if t173 = true then (none) else (if t175 = true then (none) else (if t177 = true then (none) else (if t179 = true then (if t178 = a0 then (if bt180.2 = true then (none) else (if (t169.size : Int) > 0 then (if 0 < (t169.size : Int) then (if (bt t169 0) = 48 then (none) else ((glebelaw6_awake.f k1).bind fun t184 => (some t184))) else (none)) else (none))) else (none)) else (none))))) else (none))) else (none)))) else (none)) = some r := H
            have A15 := Aside0.mk A150
            clear A150
            by_cases c16 : t169.size + 20 ≤ 9223372036854775807
            · rw [if_pos c16] at H
              have c16b0 := eq_true c16
              have c16b1 : decide (t169.size + 20 ≤ 9223372036854775807) = true := decide_eq_true c16
              try have c16b2 : (9223372036854775807 < t169.size + 20) = False := eq_false (Nat.not_lt.2 c16)
              replace H := Option.bind_eq_some_iff.mp H
              obtain ⟨⟨t180, t181⟩, A170, H⟩ := H
              replace H : (if a0 = 0 then (if t169.toList = ([48] : List UInt8) then (if t171 = true then (if t170 = 0 then (if t173 = true then (none) else (if t175 = true then (none) else (if t177 = true then (none) else (if t179 = true then (if t181 = true then (none) else ((glebelaw6_awake.f k1).bind fun t182 => (some t182))) else (none))))) else (none)) else (none)) else (none)) else (if (t171 == (decide (a0 ≤ a1))) = true then (if t171 = true then (if t170 = a0 then (if t173 = true then (none) else (if t175 = true then (none) else (if t177 = true then (none) else (if t179 = true then (if t178 = a0 then (if t181 = true then (none) else (if (t169.size : Int) > 0 then (if 0 < (t169.size : Int) then (if (bt t169 0) = 48 then (none) else ((glebelaw6_awake.f k1).bind fun t183 => (some t183))) else (none)) else (none))) else (none)) else (none))))) else (none)) else (if t170 = 0 then (if t173 = true then (none) else (if t175 = true then (none) else (if t177 = true then (none) else (if t179 = true then (if t178 = a0 then (if t181 = true then (none) else (if (t169.size : Int) > 0 then (if 0 < (t169.size : Int) then (if (bt t169 0) = 48 then (none) else ((glebelaw6_awake.f k1).bind fun t184 => (some t184))) else (none)) else (none))) else (none)) else (none))))) else (none))) else (none))) = some r := H
              have A17 := Aside0.mk A170
              clear A170
              by_cases c18 : a0 = 0
              · rw [if_pos c18] at H
                have c18b0 : (a0 == 0) = true := beq_iff_eq.mpr c18
                have c18b1 : (a0 != 0) = false := bne_eq_false_iff_eq.mpr c18
                clear c18
                by_cases c19 : t169.toList = ([48] : List UInt8)
                · rw [if_pos c19] at H
                  have c19b0 : (t169.toList == ([48] : List UInt8)) = true := beq_iff_eq.mpr c19
                  have c19b1 : (t169.toList != ([48] : List UInt8)) = false := bne_eq_false_iff_eq.mpr c19
                  clear c19
                  by_cases c20 : t171 = true
                  · subst c20
                    have H1 : (if t170 = 0 then (if t173 = true then (none) else (if t175 = true then (none) else (if t177 = true then (none) else (if t179 = true then (if t181 = true then (none) else ((glebelaw6_awake.f k1).bind fun t182 => (some t182))) else (none))))) else (none)) = some r := by rw [if_pos rfl] at H; exact H
                    clear H
                    have H := H1
                    clear H1
                    by_cases c21 : t170 = 0
                    · rw [if_pos c21] at H
                      have c21b0 : (t170 == 0) = true := beq_iff_eq.mpr c21
                      have c21b1 : (t170 != 0) = false := bne_eq_false_iff_eq.mpr c21
                      clear c21
                      by_cases c22 : t173 = true
                      · subst c22
                        have H1 : (none) = some r := by rw [if_pos rfl] at H; exact H
                        clear H
                        have H := H1
                        clear H1
                        exact absurd H (by simp)
                      · replace c22 := Bool.eq_false_iff.mpr c22
                        subst c22
                        have H1 : (if t175 = true then (none) else (if t177 = true then (none) else (if t179 = true then (if t181 = true then (none) else ((glebelaw6_awake.f k1).bind fun t182 => (some t182))) else (none)))) = some r := by rw [if_neg (show ¬ (false = true) by decide)] at H; exact H
                        clear H
                        have H := H1
                        clear H1
                        by_cases c23 : t175 = true
                        · subst c23
                          have H1 : (none) = some r := by rw [if_pos rfl] at H; exact H
                          clear H
                          have H := H1
                          clear H1
                          exact absurd H (by simp)
                        · replace c23 := Bool.eq_false_iff.mpr c23
                          subst c23
                          have H1 : (if t177 = true then (none) else (if t179 = true then (if t181 = true then (none) else ((glebelaw6_awake.f k1).bind fun t182 => (some t182))) else (none))) = some r := by rw [if_neg (show ¬ (false = true) by decide)] at H; exact H
                          clear H
                          have H := H1
                          clear H1
                          by_cases c24 : t177 = true
                          · subst c24
                            have H1 : (none) = some r := by rw [if_pos rfl] at H; exact H
                            clear H
                            have H := H1
                            clear H1
                            exact absurd H (by simp)
                          · replace c24 := Bool.eq_false_iff.mpr c24
                            subst c24
                            have H1 : (if t179 = true then (if t181 = true then (none) else ((glebelaw6_awake.f k1).bind fun t182 => (some t182))) else (none)) = some r := by rw [if_neg (show ¬ (false = true) by decide)] at H; exact H
                            clear H
                            have H := H1
                            clear H1
                            by_cases c25 : t179 = true
                            · subst c25
                              have H1 : (if t181 = true then (none) else ((glebelaw6_awake.f k1).bind fun t182 => (some t182))) = some r := by rw [if_pos rfl] at H; exact H
                              clear H
                              have H := H1
                              clear H1
                              by_cases c26 : t181 = true
                              · subst c26
                                have H1 : (none) = some r := by rw [if_pos rfl] at H; exact H
                                clear H
                                have H := H1
                                clear H1
                                exact absurd H (by simp)
                              · replace c26 := Bool.eq_false_iff.mpr c26
                                subst c26
                                have H1 : ((glebelaw6_awake.f k1).bind fun t182 => (some t182)) = some r := by rw [if_neg (show ¬ (false = true) by decide)] at H; exact H
                                clear H
                                have H := H1
                                clear H1
                                replace H := Option.bind_eq_some_iff.mp H
                                obtain ⟨t182, A270, H⟩ := H
                                replace H : (some t182) = some r := H
                                have A27 := Aside0.mk A270
                                clear A270
                                obtain rfl := Option.some.inj H
                                go_wp2_with (first | ((with_reducible refine gate_callee (f := 20) rfl ?_); refine goesL_ (some 43) rfl rfl Tryd.func20 (by kernel_rfl) rfl #[.string (x10_1 ++ t169), .int .u64 18446744073709551615] rfl (by (try simp only [List.map_toArray, List.map_cons, List.map_nil]); first | done | rfl | (simp only [List.length_drop, List.length_take]; rfl)) ?_; (with_reducible refine (date_Num.calls k1 (x10_1 ++ t169) 18446744073709551615 t172 false _ A11.out).mono ?_); rintro e w28 ⟨rfl, hb⟩; refine ⟨_, rfl, ?_⟩; have n0_ := Aside0.mk (below_step (by repeat (first | (with_reducible first | exact HB.out | apply below_alloc | apply pw_below_drewN | apply below_drew1) | exact HB.out)) hb); clear HB; have HB := n0_; clear n0_; (try clear hb); (try clear hb2); (try clear hk); (try clear hi)) | ((with_reducible refine gate_callee (f := 20) rfl ?_); refine goesL_ (some 49) rfl rfl Tryd.func20 (by kernel_rfl) rfl #[.string ((⟨#[43]⟩ : ByteArray) ++ t169), .int .u64 18446744073709551615] rfl (by (try simp only [List.map_toArray, List.map_cons, List.map_nil]); first | done | rfl | (simp only [List.length_drop, List.length_take]; rfl)) ?_; (with_reducible refine (date_Num.calls k1 ((⟨#[43]⟩ : ByteArray) ++ t169) 18446744073709551615 t174 false _ A13.out).mono ?_); rintro e w29 ⟨rfl, hb⟩; refine ⟨_, rfl, ?_⟩; have n0_ := Aside0.mk (below_step (by repeat (first | (with_reducible first | exact HB.out | apply below_alloc | apply pw_below_drewN | apply below_drew1) | exact HB.out)) hb); clear HB; have HB := n0_; clear n0_; (try clear hb); (try clear hb2); (try clear hk); (try clear hi)) | ((with_reducible refine gate_callee (f := 20) rfl ?_); refine goesL_ (some 53) rfl rfl Tryd.func20 (by kernel_rfl) rfl #[.string (⟨#[]⟩ : ByteArray), .int .u64 18446744073709551615] rfl (by (try simp only [List.map_toArray, List.map_cons, List.map_nil]); first | done | rfl | (simp only [List.length_drop, List.length_take]; rfl)) ?_; (with_reducible refine (date_Num.calls k1 (⟨#[]⟩ : ByteArray) 18446744073709551615 t176 false _ A14.out).mono ?_); rintro e w30 ⟨rfl, hb⟩; refine ⟨_, rfl, ?_⟩; have n0_ := Aside0.mk (below_step (by repeat (first | (with_reducible first | exact HB.out | apply below_alloc | apply pw_below_drewN | apply below_drew1) | exact HB.out)) hb); clear HB; have HB := n0_; clear n0_; (try clear hb); (try clear hb2); (try clear hk); (try clear hi)) | ((with_reducible refine gate_callee (f := 20) rfl ?_); refine goesL_ (some 59) rfl rfl Tryd.func20 (by kernel_rfl) rfl #[.string t169, .int .u64 a0] rfl (by (try simp only [List.map_toArray, List.map_cons, List.map_nil]); first | done | rfl | (simp only [List.length_drop, List.length_take]; rfl)) ?_; (with_reducible refine (date_Num.calls k1 t169 a0 t178 true _ A15.out).mono ?_); rintro e w31 ⟨rfl, hb⟩; refine ⟨_, rfl, ?_⟩; have n0_ := Aside0.mk (below_step (by repeat (first | (with_reducible first | exact HB.out | apply below_alloc | apply pw_below_drewN | apply below_drew1) | exact HB.out)) hb); clear HB; have HB := n0_; clear n0_; (try clear hb); (try clear hb2); (try clear hk); (try clear hi)) | ((with_reducible refine gate_callee (f := 20) rfl ?_); refine goesL_ (some 65) rfl rfl Tryd.func20 (by kernel_rfl) rfl #[.string (t169 ++ (⟨#[48, 48, 48, 48, 48, 48, 48, 48, 48, 48, 48, 48, 48, 48, 48, 48, 48, 48, 48, 48]⟩ : ByteArray)), .int .u64 18446744073709551615] rfl (by (try simp only [List.map_toArray, List.map_cons, List.map_nil]); first | done | rfl | (simp only [List.length_drop, List.length_take]; rfl)) ?_; (with_reducible refine (date_Num.calls k1 (t169 ++ (⟨#[48, 48, 48, 48, 48, 48, 48, 48, 48, 48, 48, 48, 48, 48, 48, 48, 48, 48, 48, 48]⟩ : ByteArray)) 18446744073709551615 t180 false _ A17.out).mono ?_); rintro e w32 ⟨rfl, hb⟩; refine ⟨_, rfl, ?_⟩; have n0_ := Aside0.mk (below_step (by repeat (first | (with_reducible first | exact HB.out | apply below_alloc | apply pw_below_drewN | apply below_drew1) | exact HB.out)) hb); clear HB; have HB := n0_; clear n0_; (try clear hb); (try clear hb2); (try clear hk); (try clear hi)) | (go_at_call 16; (with_reducible refine (glebelaw6_awake.calls k1  t182 _ ?side1 A27.out).mono ?_); (case side1 => exact XT.Tabs.below hTab (by repeat (first | (with_reducible first | exact HB.out | apply below_alloc | apply pw_below_drewN | apply below_drew1) | exact HB.out))); rintro e w33 ⟨rfl, hb⟩; have n0_ := Aside0.mk (below_step (by repeat (first | (with_reducible first | exact HB.out | apply below_alloc | apply pw_below_drewN | apply below_drew1) | exact HB.out)) hb); clear HB; have HB := n0_; clear n0_; (try clear hb); (try clear hb2); (try clear hk); (try clear hi)))
                                go_ret
                                exact ⟨by first | rfl | (simp [errW_none, errW_some] <;> rfl) | (simp [*, errW_none, errW_some] <;> rfl), by repeat (first | (with_reducible first | exact HB.out | apply below_alloc | apply pw_below_drewN | apply below_drew1) | exact HB.out)⟩
                            · replace c25 := Bool.eq_false_iff.mpr c25
                              subst c25
                              have H1 : (none) = some r := by rw [if_neg (show ¬ (false = true) by decide)] at H; exact H
                              clear H
                              have H := H1
                              clear H1
                              exact absurd H (by simp)
                    · rw [if_neg c21] at H
                      exact absurd H (by simp)
                  · replace c20 := Bool.eq_false_iff.mpr c20
                    subst c20
                    have H1 : (none) = some r := by rw [if_neg (show ¬ (false = true) by decide)] at H; exact H
                    clear H
                    have H := H1
                    clear H1
                    exact absurd H (by simp)
                · rw [if_neg c19] at H
                  exact absurd H (by simp)
              · rw [if_neg c18] at H
                have c18b0 : (a0 == 0) = false := beq_eq_false_iff_ne.mpr c18
                have c18b1 : (a0 != 0) = true := bne_iff_ne.mpr c18
                by_cases c34 : (t171 == (decide (a0 ≤ a1))) = true
                · rw [if_pos c34] at H
                  have c34b0 : (t171 == (decide (a0 ≤ a1))) = true := c34
                  (try (have c34b1 : decide (t171 = (decide (a0 ≤ a1))) = true := by simpa using c34))
                  (try (have c34b2 : (t171 == (decide (a0 ≤ a1))) = true := by simpa using c34))
                  clear c34
                  by_cases c35 : t171 = true
                  · subst c35
                    have H1 : (if t170 = a0 then (if t173 = true then (none) else (if t175 = true then (none) else (if t177 = true then (none) else (if t179 = true then (if t178 = a0 then (if t181 = true then (none) else (if (t169.size : Int) > 0 then (if 0 < (t169.size : Int) then (if (bt t169 0) = 48 then (none) else ((glebelaw6_awake.f k1).bind fun t183 => (some t183))) else (none)) else (none))) else (none)) else (none))))) else (none)) = some r := by rw [if_pos rfl] at H; exact H
                    clear H
                    have H := H1
                    clear H1
                    by_cases c36 : t170 = a0
                    · rw [if_pos c36] at H
                      have c36b0 : (t170 == a0) = true := beq_iff_eq.mpr c36
                      have c36b1 : (t170 != a0) = false := bne_eq_false_iff_eq.mpr c36
                      clear c36
                      by_cases c37 : t173 = true
                      · subst c37
                        have H1 : (none) = some r := by rw [if_pos rfl] at H; exact H
                        clear H
                        have H := H1
                        clear H1
                        exact absurd H (by simp)
                      · replace c37 := Bool.eq_false_iff.mpr c37
                        subst c37
                        have H1 : (if t175 = true then (none) else (if t177 = true then (none) else (if t179 = true then (if t178 = a0 then (if t181 = true then (none) else (if (t169.size : Int) > 0 then (if 0 < (t169.size : Int) then (if (bt t169 0) = 48 then (none) else ((glebelaw6_awake.f k1).bind fun t183 => (some t183))) else (none)) else (none))) else (none)) else (none)))) = some r := by rw [if_neg (show ¬ (false = true) by decide)] at H; exact H
                        clear H
                        have H := H1
                        clear H1
                        by_cases c38 : t175 = true
                        · subst c38
                          have H1 : (none) = some r := by rw [if_pos rfl] at H; exact H
                          clear H
                          have H := H1
                          clear H1
                          exact absurd H (by simp)
                        · replace c38 := Bool.eq_false_iff.mpr c38
                          subst c38
                          have H1 : (if t177 = true then (none) else (if t179 = true then (if t178 = a0 then (if t181 = true then (none) else (if (t169.size : Int) > 0 then (if 0 < (t169.size : Int) then (if (bt t169 0) = 48 then (none) else ((glebelaw6_awake.f k1).bind fun t183 => (some t183))) else (none)) else (none))) else (none)) else (none))) = some r := by rw [if_neg (show ¬ (false = true) by decide)] at H; exact H
                          clear H
                          have H := H1
                          clear H1
                          by_cases c39 : t177 = true
                          · subst c39
                            have H1 : (none) = some r := by rw [if_pos rfl] at H; exact H
                            clear H
                            have H := H1
                            clear H1
                            exact absurd H (by simp)
                          · replace c39 := Bool.eq_false_iff.mpr c39
                            subst c39
                            have H1 : (if t179 = true then (if t178 = a0 then (if t181 = true then (none) else (if (t169.size : Int) > 0 then (if 0 < (t169.size : Int) then (if (bt t169 0) = 48 then (none) else ((glebelaw6_awake.f k1).bind fun t183 => (some t183))) else (none)) else (none))) else (none)) else (none)) = some r := by rw [if_neg (show ¬ (false = true) by decide)] at H; exact H
                            clear H
                            have H := H1
                            clear H1
                            by_cases c40 : t179 = true
                            · subst c40
                              have H1 : (if t178 = a0 then (if t181 = true then (none) else (if (t169.size : Int) > 0 then (if 0 < (t169.size : Int) then (if (bt t169 0) = 48 then (none) else ((glebelaw6_awake.f k1).bind fun t183 => (some t183))) else (none)) else (none))) else (none)) = some r := by rw [if_pos rfl] at H; exact H
                              clear H
                              have H := H1
                              clear H1
                              by_cases c41 : t178 = a0
                              · rw [if_pos c41] at H
                                have c41b0 : (t178 == a0) = true := beq_iff_eq.mpr c41
                                have c41b1 : (t178 != a0) = false := bne_eq_false_iff_eq.mpr c41
                                clear c41
                                by_cases c42 : t181 = true
                                · subst c42
                                  have H1 : (none) = some r := by rw [if_pos rfl] at H; exact H
                                  clear H
                                  have H := H1
                                  clear H1
                                  exact absurd H (by simp)
                                · replace c42 := Bool.eq_false_iff.mpr c42
                                  subst c42
                                  have H1 : (if (t169.size : Int) > 0 then (if 0 < (t169.size : Int) then (if (bt t169 0) = 48 then (none) else ((glebelaw6_awake.f k1).bind fun t183 => (some t183))) else (none)) else (none)) = some r := by rw [if_neg (show ¬ (false = true) by decide)] at H; exact H
                                  clear H
                                  have H := H1
                                  clear H1
                                  by_cases c43 : (t169.size : Int) > 0
                                  · rw [if_pos c43] at H
                                    have c43b0 : decide (0 < (t169.size : Int)) = true := decide_eq_true c43
                                    have c43b1 : decide (0 < t169.size) = true := decide_eq_true (by omega)
                                    clear c43
                                    by_cases c44 : 0 < (t169.size : Int)
                                    · rw [if_pos c44] at H
                                      have c44b0 : decide (0 < (t169.size : Int)) = true := decide_eq_true c44
                                      have c44b1 : decide (0 < t169.size) = true := decide_eq_true (by omega)
                                      clear c44
                                      by_cases c46 : (bt t169 0) = 48
                                      · rw [if_pos c46] at H
                                        exact absurd H (by simp)
                                      · rw [if_neg c46] at H
                                        have c46b0 : ((bt t169 0) == 48) = false := beq_eq_false_iff_ne.mpr c46
                                        have c46b1 : ((bt t169 0) != 48) = true := bne_iff_ne.mpr c46
                                        replace H := Option.bind_eq_some_iff.mp H
                                        obtain ⟨t183, A470, H⟩ := H
                                        replace H : (some t183) = some r := H
                                        have A47 := Aside0.mk A470
                                        clear A470
                                        obtain rfl := Option.some.inj H
                                        go_wp2_with (first | ((with_reducible refine gate_callee (f := 20) rfl ?_); refine goesL_ (some 43) rfl rfl Tryd.func20 (by kernel_rfl) rfl #[.string (x10_1 ++ t169), .int .u64 18446744073709551615] rfl (by (try simp only [List.map_toArray, List.map_cons, List.map_nil]); first | done | rfl | (simp only [List.length_drop, List.length_take]; rfl)) ?_; (with_reducible refine (date_Num.calls k1 (x10_1 ++ t169) 18446744073709551615 t172 false _ A11.out).mono ?_); rintro e w48 ⟨rfl, hb⟩; refine ⟨_, rfl, ?_⟩; have n0_ := Aside0.mk (below_step (by repeat (first | (with_reducible first | exact HB.out | apply below_alloc | apply pw_below_drewN | apply below_drew1) | exact HB.out)) hb); clear HB; have HB := n0_; clear n0_; (try clear hb); (try clear hb2); (try clear hk); (try clear hi)) | ((with_reducible refine gate_callee (f := 20) rfl ?_); refine goesL_ (some 49) rfl rfl Tryd.func20 (by kernel_rfl) rfl #[.string ((⟨#[43]⟩ : ByteArray) ++ t169), .int .u64 18446744073709551615] rfl (by (try simp only [List.map_toArray, List.map_cons, List.map_nil]); first | done | rfl | (simp only [List.length_drop, List.length_take]; rfl)) ?_; (with_reducible refine (date_Num.calls k1 ((⟨#[43]⟩ : ByteArray) ++ t169) 18446744073709551615 t174 false _ A13.out).mono ?_); rintro e w49 ⟨rfl, hb⟩; refine ⟨_, rfl, ?_⟩; have n0_ := Aside0.mk (below_step (by repeat (first | (with_reducible first | exact HB.out | apply below_alloc | apply pw_below_drewN | apply below_drew1) | exact HB.out)) hb); clear HB; have HB := n0_; clear n0_; (try clear hb); (try clear hb2); (try clear hk); (try clear hi)) | ((with_reducible refine gate_callee (f := 20) rfl ?_); refine goesL_ (some 53) rfl rfl Tryd.func20 (by kernel_rfl) rfl #[.string (⟨#[]⟩ : ByteArray), .int .u64 18446744073709551615] rfl (by (try simp only [List.map_toArray, List.map_cons, List.map_nil]); first | done | rfl | (simp only [List.length_drop, List.length_take]; rfl)) ?_; (with_reducible refine (date_Num.calls k1 (⟨#[]⟩ : ByteArray) 18446744073709551615 t176 false _ A14.out).mono ?_); rintro e w50 ⟨rfl, hb⟩; refine ⟨_, rfl, ?_⟩; have n0_ := Aside0.mk (below_step (by repeat (first | (with_reducible first | exact HB.out | apply below_alloc | apply pw_below_drewN | apply below_drew1) | exact HB.out)) hb); clear HB; have HB := n0_; clear n0_; (try clear hb); (try clear hb2); (try clear hk); (try clear hi)) | ((with_reducible refine gate_callee (f := 20) rfl ?_); refine goesL_ (some 59) rfl rfl Tryd.func20 (by kernel_rfl) rfl #[.string t169, .int .u64 a0] rfl (by (try simp only [List.map_toArray, List.map_cons, List.map_nil]); first | done | rfl | (simp only [List.length_drop, List.length_take]; rfl)) ?_; (with_reducible refine (date_Num.calls k1 t169 a0 t178 true _ A15.out).mono ?_); rintro e w51 ⟨rfl, hb⟩; refine ⟨_, rfl, ?_⟩; have n0_ := Aside0.mk (below_step (by repeat (first | (with_reducible first | exact HB.out | apply below_alloc | apply pw_below_drewN | apply below_drew1) | exact HB.out)) hb); clear HB; have HB := n0_; clear n0_; (try clear hb); (try clear hb2); (try clear hk); (try clear hi)) | ((with_reducible refine gate_callee (f := 20) rfl ?_); refine goesL_ (some 65) rfl rfl Tryd.func20 (by kernel_rfl) rfl #[.string (t169 ++ (⟨#[48, 48, 48, 48, 48, 48, 48, 48, 48, 48, 48, 48, 48, 48, 48, 48, 48, 48, 48, 48]⟩ : ByteArray)), .int .u64 18446744073709551615] rfl (by (try simp only [List.map_toArray, List.map_cons, List.map_nil]); first | done | rfl | (simp only [List.length_drop, List.length_take]; rfl)) ?_; (with_reducible refine (date_Num.calls k1 (t169 ++ (⟨#[48, 48, 48, 48, 48, 48, 48, 48, 48, 48, 48, 48, 48, 48, 48, 48, 48, 48, 48, 48]⟩ : ByteArray)) 18446744073709551615 t180 false _ A17.out).mono ?_); rintro e w52 ⟨rfl, hb⟩; refine ⟨_, rfl, ?_⟩; have n0_ := Aside0.mk (below_step (by repeat (first | (with_reducible first | exact HB.out | apply below_alloc | apply pw_below_drewN | apply below_drew1) | exact HB.out)) hb); clear HB; have HB := n0_; clear n0_; (try clear hb); (try clear hb2); (try clear hk); (try clear hi); have p45 : 0 ≤ (0 : Int) := (by omega); have q45 : 0 < t169.size := (by have : (0 : Int) < (t169.size : Int) := of_decide_eq_true (by first | (with_reducible assumption) | assumption); omega); have hx45 : ∀ h : 0 < t169.size, ((t169[0]'h).toNat : Int) = bt t169 0 := bt_at t169 0; clear p45; have qi45 : (0 < (t169.size : Int)) = True := eq_true (of_decide_eq_true (by first | (with_reducible assumption) | assumption)); replace q45 := eq_true q45) | (go_at_call 16; (with_reducible refine (glebelaw6_awake.calls k1  t183 _ ?side1 A47.out).mono ?_); (case side1 => exact XT.Tabs.below hTab (by repeat (first | (with_reducible first | exact HB.out | apply below_alloc | apply pw_below_drewN | apply below_drew1) | exact HB.out))); rintro e w53 ⟨rfl, hb⟩; have n0_ := Aside0.mk (below_step (by repeat (first | (with_reducible first | exact HB.out | apply below_alloc | apply pw_below_drewN | apply below_drew1) | exact HB.out)) hb); clear HB; have HB := n0_; clear n0_; (try clear hb); (try clear hb2); (try clear hk); (try clear hi)))
                                        go_ret
                                        exact ⟨by first | rfl | (simp [errW_none, errW_some] <;> rfl) | (simp [*, errW_none, errW_some] <;> rfl), by repeat (first | (with_reducible first | exact HB.out | apply below_alloc | apply pw_below_drewN | apply below_drew1) | exact HB.out)⟩
                                    · rw [if_neg c44] at H
                                      exact absurd H (by simp)
                                  · rw [if_neg c43] at H
                                    exact absurd H (by simp)
                              · rw [if_neg c41] at H
                                exact absurd H (by simp)
                            · replace c40 := Bool.eq_false_iff.mpr c40
                              subst c40
                              have H1 : (none) = some r := by rw [if_neg (show ¬ (false = true) by decide)] at H; exact H
                              clear H
                              have H := H1
                              clear H1
                              exact absurd H (by simp)
                    · rw [if_neg c36] at H
                      exact absurd H (by simp)
                  · replace c35 := Bool.eq_false_iff.mpr c35
                    subst c35
                    have H1 : (if t170 = 0 then (if t173 = true then (none) else (if t175 = true then (none) else (if t177 = true then (none) else (if t179 = true then (if t178 = a0 then (if t181 = true then (none) else (if (t169.size : Int) > 0 then (if 0 < (t169.size : Int) then (if (bt t169 0) = 48 then (none) else ((glebelaw6_awake.f k1).bind fun t184 => (some t184))) else (none)) else (none))) else (none)) else (none))))) else (none)) = some r := by rw [if_neg (show ¬ (false = true) by decide)] at H; exact H
                    clear H
                    have H := H1
                    clear H1
                    by_cases c54 : t170 = 0
                    · rw [if_pos c54] at H
                      have c54b0 : (t170 == 0) = true := beq_iff_eq.mpr c54
                      have c54b1 : (t170 != 0) = false := bne_eq_false_iff_eq.mpr c54
                      clear c54
                      by_cases c55 : t173 = true
                      · subst c55
                        have H1 : (none) = some r := by rw [if_pos rfl] at H; exact H
                        clear H
                        have H := H1
                        clear H1
                        exact absurd H (by simp)
                      · replace c55 := Bool.eq_false_iff.mpr c55
                        subst c55
                        have H1 : (if t175 = true then (none) else (if t177 = true then (none) else (if t179 = true then (if t178 = a0 then (if t181 = true then (none) else (if (t169.size : Int) > 0 then (if 0 < (t169.size : Int) then (if (bt t169 0) = 48 then (none) else ((glebelaw6_awake.f k1).bind fun t184 => (some t184))) else (none)) else (none))) else (none)) else (none)))) = some r := by rw [if_neg (show ¬ (false = true) by decide)] at H; exact H
                        clear H
                        have H := H1
                        clear H1
                        by_cases c56 : t175 = true
                        · subst c56
                          have H1 : (none) = some r := by rw [if_pos rfl] at H; exact H
                          clear H
                          have H := H1
                          clear H1
                          exact absurd H (by simp)
                        · replace c56 := Bool.eq_false_iff.mpr c56
                          subst c56
                          have H1 : (if t177 = true then (none) else (if t179 = true then (if t178 = a0 then (if t181 = true then (none) else (if (t169.size : Int) > 0 then (if 0 < (t169.size : Int) then (if (bt t169 0) = 48 then (none) else ((glebelaw6_awake.f k1).bind fun t184 => (some t184))) else (none)) else (none))) else (none)) else (none))) = some r := by rw [if_neg (show ¬ (false = true) by decide)] at H; exact H
                          clear H
                          have H := H1
                          clear H1
                          by_cases c57 : t177 = true
                          · subst c57
                            have H1 : (none) = some r := by rw [if_pos rfl] at H; exact H
                            clear H
                            have H := H1
                            clear H1
                            exact absurd H (by simp)
                          · replace c57 := Bool.eq_false_iff.mpr c57
                            subst c57
                            have H1 : (if t179 = true then (if t178 = a0 then (if t181 = true then (none) else (if (t169.size : Int) > 0 then (if 0 < (t169.size : Int) then (if (bt t169 0) = 48 then (none) else ((glebelaw6_awake.f k1).bind fun t184 => (some t184))) else (none)) else (none))) else (none)) else (none)) = some r := by rw [if_neg (show ¬ (false = true) by decide)] at H; exact H
                            clear H
                            have H := H1
                            clear H1
                            by_cases c58 : t179 = true
                            · subst c58
                              have H1 : (if t178 = a0 then (if t181 = true then (none) else (if (t169.size : Int) > 0 then (if 0 < (t169.size : Int) then (if (bt t169 0) = 48 then (none) else ((glebelaw6_awake.f k1).bind fun t184 => (some t184))) else (none)) else (none))) else (none)) = some r := by rw [if_pos rfl] at H; exact H
                              clear H
                              have H := H1
                              clear H1
                              by_cases c59 : t178 = a0
                              · rw [if_pos c59] at H
                                have c59b0 : (t178 == a0) = true := beq_iff_eq.mpr c59
                                have c59b1 : (t178 != a0) = false := bne_eq_false_iff_eq.mpr c59
                                clear c59
                                by_cases c60 : t181 = true
                                · subst c60
                                  have H1 : (none) = some r := by rw [if_pos rfl] at H; exact H
                                  clear H
                                  have H := H1
                                  clear H1
                                  exact absurd H (by simp)
                                · replace c60 := Bool.eq_false_iff.mpr c60
                                  subst c60
                                  have H1 : (if (t169.size : Int) > 0 then (if 0 < (t169.size : Int) then (if (bt t169 0) = 48 then (none) else ((glebelaw6_awake.f k1).bind fun t184 => (some t184))) else (none)) else (none)) = some r := by rw [if_neg (show ¬ (false = true) by decide)] at H; exact H
                                  clear H
                                  have H := H1
                                  clear H1
                                  by_cases c61 : (t169.size : Int) > 0
                                  · rw [if_pos c61] at H
                                    have c61b0 : decide (0 < (t169.size : Int)) = true := decide_eq_true c61
                                    have c61b1 : decide (0 < t169.size) = true := decide_eq_true (by omega)
                                    clear c61
                                    by_cases c62 : 0 < (t169.size : Int)
                                    · rw [if_pos c62] at H
                                      have c62b0 : decide (0 < (t169.size : Int)) = true := decide_eq_true c62
                                      have c62b1 : decide (0 < t169.size) = true := decide_eq_true (by omega)
                                      clear c62
                                      by_cases c64 : (bt t169 0) = 48
                                      · rw [if_pos c64] at H
                                        exact absurd H (by simp)
                                      · rw [if_neg c64] at H
                                        have c64b0 : ((bt t169 0) == 48) = false := beq_eq_false_iff_ne.mpr c64
                                        have c64b1 : ((bt t169 0) != 48) = true := bne_iff_ne.mpr c64
                                        replace H := Option.bind_eq_some_iff.mp H
                                        obtain ⟨t184, A650, H⟩ := H
                                        replace H : (some t184) = some r := H
                                        have A65 := Aside0.mk A650
                                        clear A650
                                        obtain rfl := Option.some.inj H
                                        go_wp2_with (first | ((with_reducible refine gate_callee (f := 20) rfl ?_); refine goesL_ (some 43) rfl rfl Tryd.func20 (by kernel_rfl) rfl #[.string (x10_1 ++ t169), .int .u64 18446744073709551615] rfl (by (try simp only [List.map_toArray, List.map_cons, List.map_nil]); first | done | rfl | (simp only [List.length_drop, List.length_take]; rfl)) ?_; (with_reducible refine (date_Num.calls k1 (x10_1 ++ t169) 18446744073709551615 t172 false _ A11.out).mono ?_); rintro e w66 ⟨rfl, hb⟩; refine ⟨_, rfl, ?_⟩; have n0_ := Aside0.mk (below_step (by repeat (first | (with_reducible first | exact HB.out | apply below_alloc | apply pw_below_drewN | apply below_drew1) | exact HB.out)) hb); clear HB; have HB := n0_; clear n0_; (try clear hb); (try clear hb2); (try clear hk); (try clear hi)) | ((with_reducible refine gate_callee (f := 20) rfl ?_); refine goesL_ (some 49) rfl rfl Tryd.func20 (by kernel_rfl) rfl #[.string ((⟨#[43]⟩ : ByteArray) ++ t169), .int .u64 18446744073709551615] rfl (by (try simp only [List.map_toArray, List.map_cons, List.map_nil]); first | done | rfl | (simp only [List.length_drop, List.length_take]; rfl)) ?_; (with_reducible refine (date_Num.calls k1 ((⟨#[43]⟩ : ByteArray) ++ t169) 18446744073709551615 t174 false _ A13.out).mono ?_); rintro e w67 ⟨rfl, hb⟩; refine ⟨_, rfl, ?_⟩; have n0_ := Aside0.mk (below_step (by repeat (first | (with_reducible first | exact HB.out | apply below_alloc | apply pw_below_drewN | apply below_drew1) | exact HB.out)) hb); clear HB; have HB := n0_; clear n0_; (try clear hb); (try clear hb2); (try clear hk); (try clear hi)) | ((with_reducible refine gate_callee (f := 20) rfl ?_); refine goesL_ (some 53) rfl rfl Tryd.func20 (by kernel_rfl) rfl #[.string (⟨#[]⟩ : ByteArray), .int .u64 18446744073709551615] rfl (by (try simp only [List.map_toArray, List.map_cons, List.map_nil]); first | done | rfl | (simp only [List.length_drop, List.length_take]; rfl)) ?_; (with_reducible refine (date_Num.calls k1 (⟨#[]⟩ : ByteArray) 18446744073709551615 t176 false _ A14.out).mono ?_); rintro e w68 ⟨rfl, hb⟩; refine ⟨_, rfl, ?_⟩; have n0_ := Aside0.mk (below_step (by repeat (first | (with_reducible first | exact HB.out | apply below_alloc | apply pw_below_drewN | apply below_drew1) | exact HB.out)) hb); clear HB; have HB := n0_; clear n0_; (try clear hb); (try clear hb2); (try clear hk); (try clear hi)) | ((with_reducible refine gate_callee (f := 20) rfl ?_); refine goesL_ (some 59) rfl rfl Tryd.func20 (by kernel_rfl) rfl #[.string t169, .int .u64 a0] rfl (by (try simp only [List.map_toArray, List.map_cons, List.map_nil]); first | done | rfl | (simp only [List.length_drop, List.length_take]; rfl)) ?_; (with_reducible refine (date_Num.calls k1 t169 a0 t178 true _ A15.out).mono ?_); rintro e w69 ⟨rfl, hb⟩; refine ⟨_, rfl, ?_⟩; have n0_ := Aside0.mk (below_step (by repeat (first | (with_reducible first | exact HB.out | apply below_alloc | apply pw_below_drewN | apply below_drew1) | exact HB.out)) hb); clear HB; have HB := n0_; clear n0_; (try clear hb); (try clear hb2); (try clear hk); (try clear hi)) | ((with_reducible refine gate_callee (f := 20) rfl ?_); refine goesL_ (some 65) rfl rfl Tryd.func20 (by kernel_rfl) rfl #[.string (t169 ++ (⟨#[48, 48, 48, 48, 48, 48, 48, 48, 48, 48, 48, 48, 48, 48, 48, 48, 48, 48, 48, 48]⟩ : ByteArray)), .int .u64 18446744073709551615] rfl (by (try simp only [List.map_toArray, List.map_cons, List.map_nil]); first | done | rfl | (simp only [List.length_drop, List.length_take]; rfl)) ?_; (with_reducible refine (date_Num.calls k1 (t169 ++ (⟨#[48, 48, 48, 48, 48, 48, 48, 48, 48, 48, 48, 48, 48, 48, 48, 48, 48, 48, 48, 48]⟩ : ByteArray)) 18446744073709551615 t180 false _ A17.out).mono ?_); rintro e w70 ⟨rfl, hb⟩; refine ⟨_, rfl, ?_⟩; have n0_ := Aside0.mk (below_step (by repeat (first | (with_reducible first | exact HB.out | apply below_alloc | apply pw_below_drewN | apply below_drew1) | exact HB.out)) hb); clear HB; have HB := n0_; clear n0_; (try clear hb); (try clear hb2); (try clear hk); (try clear hi); have p63 : 0 ≤ (0 : Int) := (by omega); have q63 : 0 < t169.size := (by have : (0 : Int) < (t169.size : Int) := of_decide_eq_true (by first | (with_reducible assumption) | assumption); omega); have hx63 : ∀ h : 0 < t169.size, ((t169[0]'h).toNat : Int) = bt t169 0 := bt_at t169 0; clear p63; have qi63 : (0 < (t169.size : Int)) = True := eq_true (of_decide_eq_true (by first | (with_reducible assumption) | assumption)); replace q63 := eq_true q63) | (go_at_call 16; (with_reducible refine (glebelaw6_awake.calls k1  t184 _ ?side1 A65.out).mono ?_); (case side1 => exact XT.Tabs.below hTab (by repeat (first | (with_reducible first | exact HB.out | apply below_alloc | apply pw_below_drewN | apply below_drew1) | exact HB.out))); rintro e w71 ⟨rfl, hb⟩; have n0_ := Aside0.mk (below_step (by repeat (first | (with_reducible first | exact HB.out | apply below_alloc | apply pw_below_drewN | apply below_drew1) | exact HB.out)) hb); clear HB; have HB := n0_; clear n0_; (try clear hb); (try clear hb2); (try clear hk); (try clear hi)))
                                        go_ret
                                        exact ⟨by first | rfl | (simp [errW_none, errW_some] <;> rfl) | (simp [*, errW_none, errW_some] <;> rfl), by repeat (first | (with_reducible first | exact HB.out | apply below_alloc | apply pw_below_drewN | apply below_drew1) | exact HB.out)⟩
                                    · rw [if_neg c62] at H
                                      exact absurd H (by simp)
                                  · rw [if_neg c61] at H
                                    exact absurd H (by simp)
                              · rw [if_neg c59] at H
                                exact absurd H (by simp)
                            · replace c58 := Bool.eq_false_iff.mpr c58
                              subst c58
                              have H1 : (none) = some r := by rw [if_neg (show ¬ (false = true) by decide)] at H; exact H
                              clear H
                              have H := H1
                              clear H1
                              exact absurd H (by simp)
                    · rw [if_neg c54] at H
                      exact absurd H (by simp)
                · rw [if_neg c34] at H
                  exact absurd H (by simp)
            · rw [if_neg c16] at H
              exact absurd H (by simp)
          · rw [if_neg c12] at H
            exact absurd H (by simp)
        · rw [if_neg c10] at H
          exact absurd H (by simp)

/-- THE ONE PURE STATEMENT of glebelaw6_DateNums: yours. -/
def glebelaw6_DateNums.Pure : Prop := ∀ (a0 : Int) (a1 : Int) (a2 : Int), (Lit.int .u64 a0).wf = true → (Lit.int .u64 a1).wf = true → (Lit.int .i64 a2).wf = true → ∃ k, glebelaw6_DateNums.f k a0 a1 a2 = some true
theorem glebelaw6_DateNums.walk (P : glebelaw6_DateNums.Pure) (a0 : Int) (a1 : Int) (a2 : Int) (w : World) (w0 : (Lit.int .u64 a0).wf = true) (w1 : (Lit.int .u64 a1).wf = true) (w2 : (Lit.int .i64 a2).wf = true) (hTab : XT.Tabs w) :
    Calls Tryd.prog 4 #[.int .u64 a0, .int .u64 a1, .int .i64 a2] w fun e w' => e = .returned (.bool true) ∧ Below w.heap.size w w' := by
  obtain ⟨k, h⟩ := P a0 a1 a2 w0 w1 w2
  refine (glebelaw6_DateNums.calls k a0 a1 a2 true w hTab h).mono ?_
  rintro e w' ⟨rfl, hd⟩
  exact ⟨rfl, hd⟩

end Go.Proofs.YtcgchblljhbdaaaDoor.Z
