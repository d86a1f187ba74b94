/- The document's own numbers and days come to the same. -/
import Derived.Test.YtcgchblljhbdaaaDoorZx6
import Derived.Test.YtcgchblljhbdaaaDoorZx8
import Derived.Test.YtcgchblljhbdaaaDoorDateP
namespace Go.Proofs.YtcgchblljhbdaaaDoor.DateS
open Go Go.RowKit Go.Proofs.YtcgchblljhbdaaaDoorW.PrintWords Go.Proofs.YtcgchblljhbdaaaDoorW.PrintMore Go.Proofs.YtcgchblljhbdaaaDoor.PL Go.Proofs.YtcgchblljhbdaaaDoor.PB Go.Proofs.YtcgchblljhbdaaaDoor.NumS Go.Proofs.YtcgchblljhbdaaaDoor.Z
set_option linter.unusedSimpArgs false
set_option linter.unusedVariables false
theorem rdig (u : Nat) (hu : u < 18446744073709551616) : (IntKind.u64.wrap (48 + (Int.tmod (u : Int) 10))) % 256 = 48 + ((u % 10 : Nat) : Int) := by
  rw [tmod_nn (by omega), uw _ (by omega) (by omega)]
  omega
theorem rdiv (u : Nat) (hu : u < 18446744073709551616) : IntKind.u64.wrap (Int.tdiv (u : Int) 10) = ((u / 10 : Nat) : Int) := by
  rw [td (by omega), uw _ (by omega) (by omega)]
  omega
theorem strOf_nil (l : List Int) : ((strOfNums l).toList = ([] : List UInt8)) ↔ l = [] := by
  rw [Lib.strOfNums_toList]
  unfold Lib.bytesOf
  rw [List.map_eq_nil_iff]
theorem rstep_val (u : Nat) (S : List Int) : strOfNums ((48 + ((u % 10 : Nat) : Int)) :: S) = strOfNums [48 + ((u % 10 : Nat) : Int)] ++ strOfNums S := by rw [← strOf_app]; rfl
theorem rtext_run : ∀ u : Nat, 0 < u → u < 18446744073709551616 → ∀ S : List Int, S.length + (digs u).length ≤ 1000 → Ev (fun k => gleberef1_Text.l0 k (u : Int) (strOfNums S)) (strOfNums (digs u ++ S)) := by
  have hz : ∀ l : List Int, (strOfNums l).size = l.length := size_strOf
  have hstep : ∀ (u : Nat), 0 < u → u < 18446744073709551616 → ∀ S : List Int, S.length ≤ 1000 → ∀ k, gleberef1_Text.l0 (k + 1) (u : Int) (strOfNums S) = gleberef1_Text.l0 k ((u / 10 : Nat) : Int) (strOfNums ((48 + ((u % 10 : Nat) : Int)) :: S)) := by
    intro u hu hu2 S hS k
    have e1 : (strOfNums [48 + ((u % 10 : Nat) : Int)]).size = 1 := by rw [hz]; rfl
    have e2 := hz S
    simp only [gleberef1_Text.l0]
    rw [if_pos (by omega), rdig u hu2, Option.bind_some, if_pos (by omega), rdiv u hu2, ← rstep_val u S]
  refine digs_ind (fun u h => ?_) (fun u h ih => ?_)
  · intro h0 h1 S hS
    rw [digs_small h] at hS ⊢
    refine Ev.step (fun k => hstep u h0 h1 S (by simp at hS; omega) k) ?_
    have e0 : u / 10 = 0 := by omega
    have e1 : u % 10 = u := by omega
    rw [e0, e1]
    refine Ev.step (f := fun _ => some _) (fun k => ?_) (Ev.now _)
    simp only [gleberef1_Text.l0]
    rw [if_neg (by omega), if_neg (fun z => by rw [strOf_nil] at z; cases z)]
    rfl
  · intro h0 h1 S hS
    rw [digs_big h] at hS ⊢
    rw [List.length_append, List.length_singleton] at hS
    refine Ev.step (fun k => hstep u h0 h1 S (by omega) k) ?_
    have := ih (by omega) (by omega) ((48 + ((u % 10 : Nat) : Int)) :: S) (by rw [List.length_cons]; omega)
    rw [List.append_assoc]
    exact this
theorem rtext (u : Nat) (hu : u < 18446744073709551616) : Ev (fun k => gleberef1_Text.f k (u : Int)) (strOfNums (digs u)) := by
  rcases Nat.eq_zero_or_pos u with rfl | h
  · exact Ev.of (fun k => gleberef1_Text.mono 0 k) (k := 5) (by rw [digs_zero]; kernel_rfl)
  · have := rtext_run u h hu [] (by have := digs_le20 u hu; simp; omega)
    rw [List.append_nil] at this
    exact this
/-! ### a text as a number -/
theorem rj (s : ByteArray) (hs : s.size < 1048576) (M : Int) (M0 : 0 ≤ M) (M1 : M < 18446744073709551616) (n : Nat) (hn : n < s.size) (acc : Int) (a0 : 0 ≤ acc) (a1 : acc ≤ M) (c : Int) (hc : bt s (n : Int) = c) (c0 : 48 ≤ c) (c1 : c ≤ 57) {R : Int × Bool}
    (h1 : 10 * acc + (c - 48) ≤ M → Ev (fun k => gleberef1_Num.l0 k s M (10 * acc + (c - 48)) ((n + 1 : Nat) : Int)) R) (h2 : ¬ (10 * acc + (c - 48) ≤ M) → R = (0, false)) : Ev (fun k => gleberef1_Num.j1 k s M acc (n : Int) false) R := by
  have hm : (c - 48) % 256 = c - 48 := by omega
  have hmn : mn M (c - 48) = if c - 48 < M then c - 48 else M := rfl
  have hmn2 : 0 ≤ mn M (c - 48) ∧ mn M (c - 48) ≤ M ∧ (c - 48 < M → mn M (c - 48) = c - 48) ∧ (¬ c - 48 < M → mn M (c - 48) = M) := by
    rw [hmn]
    by_cases z : c - 48 < M
    · rw [if_pos z]; exact ⟨by omega, by omega, fun _ => rfl, fun h => absurd z h⟩
    · rw [if_neg z]; exact ⟨by omega, by omega, fun h => absurd h z, fun _ => rfl⟩
  obtain ⟨g0, g1, g2, g3⟩ := hmn2
  have hun : ∀ k, gleberef1_Num.j1 (k + 1) s M acc (n : Int) false = if acc > (M - mn M (c - 48)) / 10 then some (0, false) else (if (IntKind.u64.wrap ((IntKind.u64.wrap (10 * acc)) + (c - 48))) > M then (some (0, false)) else (gleberef1_Num.l0 k s M (IntKind.u64.wrap ((IntKind.u64.wrap (10 * acc)) + (c - 48))) (wrap64 ((n : Int) + 1)))) := by
    intro k
    simp only [gleberef1_Num.j1]
    rw [if_neg (by simp), if_pos (by omega), if_pos (by omega), hc, hm, uw (M - mn M (c - 48)) (by omega) (by omega), td (by omega), uw ((M - mn M (c - 48)) / 10) (by omega) (by omega)]
  by_cases hb : acc > (M - mn M (c - 48)) / 10
  · rw [h2 (by by_cases z : c - 48 < M; have := g2 z; omega; have := g3 z; omega)]
    refine Ev.step (f := fun _ => some _) (fun k => ?_) (Ev.now _)
    rw [hun, if_pos hb]
  · have hle : 10 * acc + (c - 48) < 18446744073709551616 := by
      by_cases z : c - 48 < M
      · have := g2 z; omega
      · have := g3 z; omega
    by_cases hgt : 10 * acc + (c - 48) ≤ M
    · refine Ev.step (fun k => ?_) (h1 hgt)
      rw [hun, if_neg hb, uw (10 * acc) (by omega) (by omega), uw (10 * acc + (c - 48)) (by omega) (by omega), if_neg (by omega), wrap_nat (by omega)]
    · rw [h2 hgt]
      refine Ev.step (f := fun _ => some _) (fun k => ?_) (Ev.now _)
      rw [hun, if_neg hb, uw (10 * acc) (by omega) (by omega), uw (10 * acc + (c - 48)) (by omega) (by omega), if_pos (by omega)]
theorem rbad (s : ByteArray) (M acc n : Int) : Ev (fun k => gleberef1_Num.j1 k s M acc n true) (0, false) := by
  refine Ev.step (f := fun _ => some _) (fun k => ?_) (Ev.now _)
  simp only [gleberef1_Num.j1]
  rw [if_pos trivial]
/-- From some place on; what stands at place 1 is looked at with what stands at 0. -/
theorem rnum_run (s : ByteArray) (hs : s.size < 1048576) (M : Int) (M0 : 0 ≤ M) (M1 : M < 18446744073709551616) : ∀ (l : List Int) (n : Nat) (acc : Int), (bytesOf s).drop n = l → n ≤ s.size → 0 ≤ acc → acc ≤ M → 1 ≤ n → (n = 1 → bt s 0 ≠ 48 ∨ l = []) →
    Ev (fun k => gleberef1_Num.l0 k s M acc (n : Int)) (if l.all isD = true ∧ valL acc l ≤ M then (valL acc l, true) else (0, false)) := by
  have hL := len_bytes s
  intro l
  induction l with
  | nil =>
    intro n acc h hn h0 h1 hn1 hz
    have := dn h (by omega)
    refine Ev.step (f := fun _ => some _) (fun k => ?_) (Ev.now _)
    simp only [gleberef1_Num.l0]
    rw [if_neg (by omega), if_pos ⟨rfl, h1⟩, decide_eq_true (by omega)]
    rfl
  | cons c l ih =>
    intro n acc h hn h0 h1 hn1 hz
    obtain ⟨g1, g2, g3, g4⟩ := dc h
    have hbt : bt s (n : Int) = c := by rw [bt_rd, g2]
    by_cases c1 : c < 48
    · have hx : ¬ ((c :: l).all isD = true ∧ valL acc (c :: l) ≤ M) := by
        rintro ⟨h2, _⟩
        rw [List.all_cons, Bool.and_eq_true, isD_iff] at h2
        omega
      rw [if_neg hx]
      refine Ev.step (fun k => ?_) (rbad s M acc n)
      simp only [gleberef1_Num.l0]
      rw [if_pos (by omega), if_pos (by omega), hbt, if_pos c1]
    · by_cases c2 : c > 57
      · have hx : ¬ ((c :: l).all isD = true ∧ valL acc (c :: l) ≤ M) := by
          rintro ⟨h2, _⟩
          rw [List.all_cons, Bool.and_eq_true, isD_iff] at h2
          omega
        rw [if_neg hx]
        refine Ev.step (fun k => ?_) (rbad s M acc n)
        simp only [gleberef1_Num.l0]
        rw [if_pos (by omega), if_pos (by omega), hbt, if_neg c1, if_pos c2]
      · have hD : isD c = true := (isD_iff c).2 ⟨by omega, by omega⟩
        have hv : valL acc (c :: l) = valL (10 * acc + (c - 48)) l := rfl
        have hj := rj s hs M M0 M1 n (by omega) acc h0 h1 c hbt (by omega) (by omega) (R := if (c :: l).all isD = true ∧ valL acc (c :: l) ≤ M then (valL acc (c :: l), true) else (0, false))
          (fun hle => by
            rw [List.all_cons, hD, Bool.true_and, hv]
            exact ih (n + 1) _ g3 (by omega) (by omega) hle (by omega) (fun z => by omega))
          (fun hgt => if_neg (by
            rintro ⟨h2, h3⟩
            rw [List.all_cons, Bool.and_eq_true] at h2
            have := valL_ge l (10 * acc + (c - 48)) h2.2 (by omega)
            rw [hv] at h3
            omega))
        refine Ev.step (fun k => ?_) hj
        simp only [gleberef1_Num.l0]
        rw [if_pos (by omega), if_pos (by omega), hbt, if_neg c1, if_neg c2]
        by_cases hn2 : n = 1
        · subst hn2
          have h48 : bt s 0 ≠ 48 := (hz rfl).resolve_right (by simp)
          have : (bt s 0 == 48) = false := by simpa using h48
          rw [if_pos (by rfl), if_pos (by omega), this]
        · rw [if_neg (by omega)]
theorem rnum (s : ByteArray) (hs : s.size < 1048576) (M : Int) (M0 : 0 ≤ M) (M1 : M < 18446744073709551616) : Ev (fun k => gleberef1_Num.f k s M) (numV (bytesOf s) M) := by
  have hL := len_bytes s
  show Ev (fun k => gleberef1_Num.l0 k s M 0 0) _
  cases hb : bytesOf s with
  | nil =>
    rw [hb] at hL
    refine Ev.step (f := fun _ => some (0, false)) (fun k => ?_) (by unfold numV; rw [if_neg (fun z => z.1 rfl)]; exact Ev.now _)
    simp only [gleberef1_Num.l0]
    rw [if_neg (by simp at hL; omega), decide_eq_false (by simp at hL; omega)]
  | cons c l =>
    have hd : (bytesOf s).drop 0 = c :: l := hb
    obtain ⟨g1, g2, g3, g4⟩ := dc hd
    have hbt : bt s 0 = c := by
      have := bt_rd s 0
      rw [g2] at this
      exact this
    have hsz : s.size = l.length + 1 := by rw [← hL, hb]; rfl
    have hst : ∀ k, gleberef1_Num.l0 (k + 1) s M 0 0 = if c < 48 then gleberef1_Num.j1 k s M 0 0 true else if c > 57 then gleberef1_Num.j1 k s M 0 0 true else gleberef1_Num.j1 k s M 0 0 false := by
      intro k
      simp only [gleberef1_Num.l0]
      rw [if_pos (by omega), if_pos (by omega), hbt, if_neg (show ¬ ((0 : Int) = 1) by omega)]
    by_cases c1 : c < 48
    · have : numV (c :: l) M = (0, false) := by
        unfold numV
        rw [if_neg]
        rintro ⟨_, h2, _⟩
        rw [List.all_cons, Bool.and_eq_true, isD_iff] at h2
        omega
      rw [this]
      exact Ev.step (fun k => by rw [hst, if_pos c1]) (rbad s M 0 0)
    · by_cases c2 : c > 57
      · have : numV (c :: l) M = (0, false) := by
          unfold numV
          rw [if_neg]
          rintro ⟨_, h2, _⟩
          rw [List.all_cons, Bool.and_eq_true, isD_iff] at h2
          omega
        rw [this]
        exact Ev.step (fun k => by rw [hst, if_neg c1, if_pos c2]) (rbad s M 0 0)
      · have hD : isD c = true := (isD_iff c).2 ⟨by omega, by omega⟩
        refine Ev.step (f := fun k => gleberef1_Num.j1 k s M 0 ((0 : Nat) : Int) false) (fun k => by rw [hst, if_neg c1, if_neg c2]; rfl) ?_
        have hv : valL 0 (c :: l) = valL (10 * 0 + (c - 48)) l := rfl
        refine rj s hs M M0 M1 0 (by omega) 0 (by omega) M0 c hbt (by omega) (by omega) (fun hle => ?_) (fun hgt => ?_)
        · by_cases hz : c = 48 ∧ l ≠ []
          · have hnv : numV (c :: l) M = (0, false) := by
              unfold numV
              rw [if_neg]
              rintro ⟨_, _, h3, _⟩
              exact h3 ⟨by rw [hz.1]; rfl, by have := List.length_pos_iff.2 hz.2; simp; omega⟩
            rw [hnv]
            obtain ⟨c', l', rfl⟩ := List.exists_cons_of_ne_nil hz.2
            obtain ⟨q1, q2, q3, q4⟩ := dc g3
            have hbt1 : bt s ((0 + 1 : Nat) : Int) = c' := by rw [bt_rd, q2]
            refine Ev.step (f := fun k => gleberef1_Num.j1 k s M (10 * 0 + (c - 48)) 1 true) (fun k => ?_) (rbad s M _ 1)
            simp only [gleberef1_Num.l0]
            have e1 : ((0 + 1 : Nat) : Int) = 1 := rfl
            have h48 : (bt s 0 == 48) = true := by rw [hbt, hz.1]; rfl
            rw [if_pos (by simp at hsz; omega), if_pos (by omega), hbt1]
            by_cases q48 : c' < 48
            · rw [if_pos q48]
              rfl
            · by_cases q57 : c' > 57
              · rw [if_neg q48, if_pos q57]
                rfl
              · rw [if_neg q48, if_neg q57, if_pos e1, if_pos (by omega), h48]
                rfl
          · have hz2 : c ≠ 48 ∨ l = [] := by
              by_cases z : c = 48
              · exact .inr (Decidable.byContradiction fun y => hz ⟨z, y⟩)
              · exact .inl z
            have hr := rnum_run s hs M M0 M1 l (0 + 1) (10 * 0 + (c - 48)) g3 (by omega) (by omega) hle (by omega) (fun _ => by rw [hbt]; exact hz2)
            have hnv : numV (c :: l) M = if l.all isD = true ∧ valL (10 * 0 + (c - 48)) l ≤ M then (valL (10 * 0 + (c - 48)) l, true) else (0, false) := by
              unfold numV
              rw [hv, List.all_cons, hD, Bool.true_and]
              by_cases hc : l.all isD = true ∧ valL (10 * 0 + (c - 48)) l ≤ M
              · have h3 : ¬ ((c :: l).head? = some 48 ∧ 1 < (c :: l).length) := by
                  rintro ⟨z1, z2⟩
                  have hc48 : c = 48 := by simpa using z1
                  rcases hz2 with h | h
                  · exact h hc48
                  · subst h
                    simp at z2
                rw [if_pos hc, if_pos ⟨by simp, hc.1, h3, hc.2⟩]
              · rw [if_neg hc, if_neg (fun z => hc ⟨z.2.1, z.2.2.2⟩)]
            rw [hnv]
            exact hr
        · unfold numV
          rw [if_neg]
          rintro ⟨_, h2, _, h3⟩
          rw [List.all_cons, Bool.and_eq_true] at h2
          have := valL_ge l (10 * 0 + (c - 48)) h2.2 (by omega)
          rw [hv] at h3
          omega
end Go.Proofs.YtcgchblljhbdaaaDoor.DateS
