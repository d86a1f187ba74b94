/- A number is told in its one form, and no other; up to its bound, and no farther. -/
import Derived.Test.YtcgchblljhbdaaaDoorZx3
import Derived.Test.YtcgchblljhbdaaaDoorZx5
import Derived.Test.YtcgchblljhbdaaaDoorNumS
namespace Go.Proofs.YtcgchblljhbdaaaDoor.Pure
open Go Go.RowKit Go.Proofs.YtcgchblljhbdaaaDoor.Z Go.Proofs.YtcgchblljhbdaaaDoorW.PrintWords Go.Proofs.YtcgchblljhbdaaaDoorW.PrintMore Go.Proofs.YtcgchblljhbdaaaDoorW.PrintLast Go.Proofs.YtcgchblljhbdaaaDoor.PL Go.Proofs.YtcgchblljhbdaaaDoor.PB Go.Proofs.YtcgchblljhbdaaaDoor.NumS
set_option linter.unusedSimpArgs false
set_option linter.unusedVariables false
theorem awZ : Ev (fun k => glebelaw6_awake.f k) true := Ev.of (fun k => glebelaw6_awake.mono k) (k := 400) (by kernel_rfl)
theorem finZ : Ev (fun k => (glebelaw6_awake.f k).bind fun t => some t) true := Ev.bind (g := fun k => glebelaw6_awake.f k) awZ (Ev.now _)
theorem u64_of_wf {x : Int} (h : (Lit.int .u64 x).wf = true) : 0 ≤ x ∧ x < 18446744073709551616 := by
  have h8 : IntKind.u64.min = 0 ∧ IntKind.u64.max = 18446744073709551615 := by decide
  simp [Lit.wf] at h
  omega
theorem num' (l : List Int) (hl : l.length < 1048576) (hB : ∀ x ∈ l, 0 ≤ x ∧ x < 256) (M : Int) (M0 : 0 ≤ M) (M1 : M < 18446744073709551616) : Ev (fun k => date_Num.f k (strOfNums l) M) (numV l M) := by
  have := num (strOfNums l) (by rw [size_strOf]; exact hl) M M0 M1
  rw [bytesOf_strOf l hB] at this
  exact this
def zeros (i : Nat) : List Int := List.replicate i 48
theorem valL_pow : ∀ (i : Nat) (n : Int), valL n (zeros i) = n * 10 ^ i := by
  intro i
  induction i with
  | zero => intro n; simp [zeros, valL]
  | succ i ih =>
    intro n
    show valL (10 * n + (48 - 48)) (zeros i) = _
    rw [ih, Int.pow_succ]
    have : (10 * n + (48 - 48)) = n * 10 := by omega
    rw [this, Int.mul_assoc, Int.mul_comm 10]
theorem nums_loop (u : Nat) (hu : u < 18446744073709551616) (a1 a2 : Int) (hM0 : 0 ≤ a1) (hM1 : a1 < 18446744073709551616) (m : Int) (ok : Bool) (hmk : (m, ok) = numV (digs u) a1) (N : Nat) (hN1 : 1 ≤ N) (hN : N ≤ 4) (hw : wrap64 ((Go.bits .and .i64 a2 3) + 1) = (N : Int)) :
    ∀ (d i : Nat), i + d = N → Ev (fun k => glebelaw6_DateNums.l0 k (u : Int) a1 a2 (strOfNums (digs u)) m ok (strOfNums (zeros i)) (i : Int)) true := by
  have hlen := digs_le20 u hu
  have hsz : (strOfNums (digs u)).size = (digs u).length := size_strOf _
  have hzs : ∀ i, (strOfNums (zeros i)).size = i := fun i => by rw [size_strOf]; simp [zeros]
  have hzB : ∀ i, ∀ x ∈ zeros i, 0 ≤ x ∧ x < 256 := by
    intro i x hx
    have := List.eq_of_mem_replicate hx
    omega
  intro d
  induction d with
  | zero =>
    intro i hi
    obtain rfl : i = N := by omega
    have q1 := num' (zeros i ++ digs u) (by simp [zeros]; omega) (by intro x hx; rcases List.mem_append.1 hx with h | h; exact hzB i x h; exact digs_byte u x h) 18446744073709551615 (by omega) (by omega)
    have q2 := num' ([43] ++ digs u) (by simp; omega) (by intro x hx; rcases List.mem_append.1 hx with h | h; (simp at h; omega); exact digs_byte u x h) 18446744073709551615 (by omega) (by omega)
    have q3 := num' [] (by simp) (by simp) 18446744073709551615 (by omega) (by omega)
    have q4 := num' (digs u) (by omega) (digs_byte u) (u : Int) (by omega) (by omega)
    have q5 := num' (digs u ++ zeros 20) (by simp [zeros]; omega) (by intro x hx; rcases List.mem_append.1 hx with h | h; exact digs_byte u x h; exact hzB 20 x h) 18446744073709551615 (by omega) (by omega)
    have hne := digs_ne u
    have n1 : numV (zeros i ++ digs u) 18446744073709551615 = (0, false) := by
      unfold numV
      rw [if_neg]
      rintro ⟨_, _, h, _⟩
      refine h ⟨?_, ?_⟩
      · obtain ⟨j, rfl⟩ : ∃ j, i = j + 1 := ⟨i - 1, by omega⟩
        simp [zeros, List.replicate_succ]
      · have : 0 < (digs u).length := List.length_pos_iff.2 hne
        simp [zeros]
        omega
    have n2 : numV ([43] ++ digs u) 18446744073709551615 = (0, false) := by
      unfold numV
      rw [if_neg]
      rintro ⟨_, h, _⟩
      simp [isD] at h
    have n3 : numV [] 18446744073709551615 = (0, false) := by
      unfold numV
      rw [if_neg (fun z => z.1 rfl)]
    have n4 : numV (digs u) (u : Int) = ((u : Int), true) := by rw [numV_digs, if_pos (Int.le_refl _)]
    have n5 : (u : Int) ≠ 0 → numV (digs u ++ zeros 20) 18446744073709551615 = (0, false) := by
      intro h0
      unfold numV
      rw [if_neg]
      rintro ⟨_, _, _, h⟩
      rw [valL_app, digs_val, valL_pow] at h
      omega
    have n5z : (u : Int) = 0 → numV (digs u ++ zeros 20) 18446744073709551615 = (0, false) := by
      intro h0
      obtain rfl : u = 0 := by omega
      unfold numV
      rw [if_neg]
      rintro ⟨_, _, h, _⟩
      exact h ⟨by rw [digs_zero]; rfl, by rw [digs_zero]; simp [zeros]⟩
    have n5' : numV (digs u ++ zeros 20) 18446744073709551615 = (0, false) := by
      by_cases h : (u : Int) = 0
      · exact n5z h
      · exact n5 h
    rw [n1, strOf_app] at q1
    rw [n2, strOf_app] at q2
    rw [n3] at q3
    rw [n4] at q4
    rw [n5', strOf_app] at q5
    have e43 : strOfNums [43] = (⟨#[43]⟩ : ByteArray) := rfl
    have e0 : strOfNums [] = (⟨#[]⟩ : ByteArray) := rfl
    have e20 : strOfNums (zeros 20) = (⟨#[48, 48, 48, 48, 48, 48, 48, 48, 48, 48, 48, 48, 48, 48, 48, 48, 48, 48, 48, 48]⟩ : ByteArray) := rfl
    rw [e43] at q2
    rw [e0] at q3
    rw [e20] at q5
    have hz := hzs i
    refine Ev.step (f := ?f) ?h ?k
    case h =>
      intro k
      simp only [glebelaw6_DateNums.l0]
      rw [if_neg (by omega), if_pos (by omega)]
    refine Ev.bind (g := fun k => date_Num.f k (strOfNums (zeros i) ++ strOfNums (digs u)) 18446744073709551615) q1 ?_
    refine Ev.congr (f := ?f2) ?h2 ?k2
    case h2 =>
      intro k
      rw [if_pos (by omega)]
    refine Ev.bind (g := fun k => date_Num.f k ((⟨#[43]⟩ : ByteArray) ++ strOfNums (digs u)) 18446744073709551615) q2 (Ev.bind (g := fun k => date_Num.f k (⟨#[]⟩ : ByteArray) 18446744073709551615) q3 (Ev.bind (g := fun k => date_Num.f k (strOfNums (digs u)) (u : Int)) q4 ?_))
    refine Ev.congr (f := ?f3) ?h3 ?k3
    case h3 =>
      intro k
      rw [if_pos (by omega)]
    refine Ev.bind (g := fun k => date_Num.f k (strOfNums (digs u) ++ _) 18446744073709551615) q5 ?_
    refine Ev.congr (fun k => ?_) finZ
    rw [numV_digs] at hmk
    by_cases hu0 : (u : Int) = 0
    · obtain rfl : u = 0 := by omega
      rw [if_pos (by omega)] at hmk
      injection hmk with hm1 hm2
      subst hm1 hm2
      have e48 : (strOfNums (digs 0)).toList = ([48] : List UInt8) := by rw [digs_zero, Lib.toList_data]; rfl
      rw [if_pos (by rfl), if_pos e48, if_pos rfl, if_pos (by rfl), if_neg (by simp), if_neg (by simp), if_neg (by simp), if_pos rfl, if_neg (by simp)]
    · obtain ⟨c, l, hcl, g1, g2⟩ := digs_head u (by omega)
      have hpos : 0 < (digs u).length := List.length_pos_iff.2 hne
      have hb0 : bt (strOfNums (digs u)) 0 = c := by
        have := bt_rd (strOfNums (digs u)) 0
        rw [bytesOf_strOf _ (digs_byte u)] at this
        rw [hcl] at this ⊢
        exact this
      rw [if_neg hu0]
      by_cases hle : (u : Int) ≤ a1
      · rw [if_pos hle] at hmk
        injection hmk with hm1 hm2
        subst hm1 hm2
        rw [if_pos (by rw [decide_eq_true hle]; rfl), if_pos rfl, if_pos rfl, if_neg (by simp), if_neg (by simp), if_neg (by simp), if_pos rfl, if_pos rfl, if_neg (by simp), if_pos (by omega), if_pos (by omega), hb0, if_neg (by omega)]
      · rw [if_neg hle] at hmk
        injection hmk with hm1 hm2
        subst hm1 hm2
        rw [if_pos (by rw [decide_eq_false hle]; rfl), if_neg (by simp), if_pos rfl, if_neg (by simp), if_neg (by simp), if_neg (by simp), if_pos rfl, if_pos rfl, if_neg (by simp), if_pos (by omega), if_pos (by omega), hb0, if_neg (by omega)]
  | succ d ih =>
    intro i hi
    have hz := hzs i
    refine Ev.step (f := fun k => glebelaw6_DateNums.l0 k (u : Int) a1 a2 (strOfNums (digs u)) m ok (strOfNums (zeros (i + 1))) ((i + 1 : Nat) : Int)) (fun k => ?_) (ih (i + 1) (by omega))
    have e1 : strOfNums (zeros (i + 1)) = strOfNums (zeros i) ++ (⟨#[48]⟩ : ByteArray) := by
      have : zeros (i + 1) = zeros i ++ [48] := by simp [zeros, List.replicate_succ']
      rw [this, strOf_app]
      rfl
    rw [e1]
    simp only [glebelaw6_DateNums.l0]
    rw [if_pos (by omega), if_pos (by omega), wrap_nat (by omega)]
theorem DateNums : glebelaw6_DateNums.Pure := by
  intro a0 a1 a2 h1 h2 h3
  apply Ev.rounds
  have hu := u64_of_wf h1
  have hm := u64_of_wf h2
  obtain ⟨u, rfl⟩ : ∃ u : Nat, a0 = (u : Int) := ⟨a0.toNat, by omega⟩
  have hu64 : u < 18446744073709551616 := by omega
  have hlen := digs_le20 u hu64
  refine Ev.congr (f := ?f) ?h ?k
  case h =>
    intro k
    unfold glebelaw6_DateNums.f
    rw [text_f u hu64, Option.bind_some]
  refine Ev.bind (g := fun k => date_Num.f k (strOfNums (digs u)) a1) (num' (digs u) (by omega) (digs_byte u) a1 hm.1 hm.2) ?_
  refine nums_loop u hu64 a1 a2 hm.1 hm.2 (numV (digs u) a1).1 (numV (digs u) a1).2 rfl ((a2 % 4).toNat + 1) (by omega) (by omega) ?_ ((a2 % 4).toNat + 1) 0 (by omega)
  rw [and3, wrap_in (by omega) (by omega)]
  omega
end Go.Proofs.YtcgchblljhbdaaaDoor.Pure
