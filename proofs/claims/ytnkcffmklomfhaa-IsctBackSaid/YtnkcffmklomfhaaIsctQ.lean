/- Signs of the first tongue: a text in quotes; pieces of the tongue. -/
import Derived.Test.YtnkcffmklomfhaaIsctT
import Derived.Test.YtnkcffmklomfhaaXx6
import Derived.Test.YtnkcffmklomfhaaXx9
namespace Go.Proofs.Ytnkcffmklomfhaa.IsctS
open Go Go.RowKit Go.Proofs.YtnkcffmklomfhaaW.PrintWords Go.Proofs.Ytnkcffmklomfhaa.PL Go.Proofs.Ytnkcffmklomfhaa.X
set_option linter.unusedSimpArgs false
set_option linter.unusedVariables false
theorem isP_iff (c : Int) : isP c = true ↔ 32 ≤ c ∧ c ≤ 126 := by simp [isP]
theorem toks_len : ∀ (m : Nat) (l : List Int) (n : Nat) (acc : List S33) (b : List Int), b.drop n = l → n ≤ b.length → acc.length ≤ n → (toks m l n acc).1.length ≤ b.length := by
  intro m
  induction m with
  | zero => intro l n acc b h hn ha; simp only [toks]; omega
  | succ m ih =>
    intro l n acc b h hn ha
    cases l with
    | nil => simp only [toks]; omega
    | cons c l =>
      have hat := step_at h
      simp only [toks]
      revert hat
      cases stp c l n with
      | err k a => intro hat; simp
      | go t l' n' =>
        intro hat
        refine ih l' n' _ b hat.1 hat.2.2.1 ?_
        rw [List.length_append]
        have : t.toList.length ≤ 1 := by cases t <;> simp
        omega
theorem tokens_len (b : List Int) (hb : b.length ≤ 1000000) : (tokens b).1.length ≤ 1000000 := by
  have := toks_len (b.length + 1) b 0 [] b rfl (by omega) (by simp)
  unfold tokens
  omega
def esc (c : Int) : List Int := if isP c = true then (if c = 34 ∨ c = 92 then [92, c] else [c]) else []
def quoteS (l : List Int) : List Int := 34 :: (l.flatMap esc ++ [34])
theorem esc_len (c : Int) : (esc c).length ≤ 2 := by
  unfold esc
  split
  · split <;> simp
  · simp
theorem q_run (b : List Int) (hb : b.length ≤ 1000) (hB : ∀ x ∈ b, 0 ≤ x ∧ x < 256) : ∀ (l : List Int) (n : Nat) (acc : List Int), b.drop n = l → n ≤ b.length → acc.length ≤ 2 * n + 1 →
    Ev (fun k => isct_Quote.l0 k acc b (b.length : Int) (n : Int)) (strOfNums (acc ++ l.flatMap esc ++ [34])) := by
  intro l
  induction l with
  | nil =>
    intro n acc h hn ha
    have := dn h hn
    refine Ev.step (f := fun _ => some _) (fun k => ?_) (Ev.now _)
    simp only [isct_Quote.l0]
    rw [if_neg (by omega), if_pos (by omega)]
    simp
  | cons c l ih =>
    intro n acc h hn ha
    obtain ⟨h1, h2, h3, h4⟩ := dc h
    have hc := hB c (by rw [← List.take_append_drop n b, h]; simp)
    have e : acc ++ (c :: l).flatMap esc ++ [34] = (acc ++ esc c) ++ l.flatMap esc ++ [34] := by simp
    rw [e]
    have hl := esc_len c
    refine Ev.step (f := fun k => isct_Quote.l0 k (acc ++ esc c) b (b.length : Int) ((n + 1 : Nat) : Int)) (fun k => ?_) (ih (n + 1) _ h3 (by omega) (by simp; omega))
    simp only [isct_Quote.l0]
    rw [if_pos (by omega), if_pos (by omega), if_pos (by omega), h2, plain_f c hc.1 hc.2, Option.bind_some, wrap_nat (by omega)]
    by_cases hp : isP c = true
    · rw [if_pos hp]
      by_cases h34 : c = 34
      · rw [if_pos h34, if_pos (by omega), Option.bind_some, if_pos (by simp; omega)]
        have : esc c = [92, c] := by simp [esc, hp, h34]; decide
        rw [this]
        simp
      · rw [if_neg h34]
        by_cases h92 : c = 92
        · rw [if_pos h92, if_pos (by omega), Option.bind_some, if_pos (by simp; omega)]
          have : esc c = [92, c] := by simp [esc, hp, h92]; decide
          rw [this]
          simp
        · rw [if_neg h92, if_pos (by omega)]
          have : esc c = [c] := by simp [esc, hp, h34, h92]
          rw [this]
    · rw [if_neg hp]
      have : esc c = [] := by simp [esc, hp]
      rw [this]
      simp
theorem bytesOf_byte (s : ByteArray) : ∀ x ∈ bytesOf s, 0 ≤ x ∧ x < 256 := by
  intro x hx
  simp only [bytesOf, List.mem_map] at hx
  obtain ⟨u, _, rfl⟩ := hx
  have := u.toNat_lt
  omega
theorem Quote_run (s : ByteArray) (hs : s.size ≤ 1000) : Ev (fun k => isct_Quote.f k s) (strOfNums (quoteS (bytesOf s))) := by
  have h := q_run (bytesOf s) (by rw [bytesOf_length]; exact hs) (bytesOf_byte s) (bytesOf s) 0 [34] rfl (by omega) (by simp)
  refine Ev.congr (fun k => ?_) h
  unfold isct_Quote.f
  rw [if_pos (by omega), Option.bind_some]
  rfl
/-- Pieces of the tongue: few, and short. -/
theorem Text_loop (tab : List ByteArray) (htab : 0 < tab.length) (hsz : tab.all (fun s => decide (s.size ≤ 20)) = true) (htl : tab.length < 1000) (l : List Int) : ∀ (d i : Nat) (acc : List Int), i + d = 60 → acc.length ≤ 21 * i → (∀ x ∈ acc, 0 ≤ x ∧ x < 256) →
    ∃ t, Ev (fun k => glebelaw8_Text.l0 k l tab acc (i : Int)) t ∧ t.length ≤ 1260 ∧ ∀ x ∈ t, 0 ≤ x ∧ x < 256 := by
  intro d
  induction d with
  | zero =>
    intro i acc hi ha hB
    obtain rfl : i = 60 := by omega
    refine ⟨acc, Ev.step (f := fun _ => some acc) (fun k => ?_) (Ev.now _), by omega, hB⟩
    simp only [glebelaw8_Text.l0]
    by_cases hl : ((60 : Nat) : Int) < (l.length : Int)
    · rw [if_pos hl, if_neg (by omega)]
    · rw [if_neg hl]
  | succ d ih =>
    intro i acc hi ha hB
    by_cases hl : (i : Int) < (l.length : Int)
    · have hj : ∃ j : Nat, j < tab.length ∧ Int.tmod (Go.bits .and .i64 (rd l (i : Int)) 65535) (tab.length : Int) = (j : Int) := by
        refine ⟨((rd l (i : Int) % 65536) % (tab.length : Int)).toNat, ?_, ?_⟩
        · have := Int.emod_lt_of_pos (rd l (i : Int) % 65536) (show (0 : Int) < (tab.length : Int) by omega)
          omega
        · rw [and65535, tmod_nn (by omega)]
          have := Int.emod_nonneg (rd l (i : Int) % 65536) (show (tab.length : Int) ≠ 0 by omega)
          omega
      obtain ⟨j, hj1, hj2⟩ := hj
      have hs : (rdOf ByteArray.empty tab (j : Int)).size ≤ 20 := by
        have e : rdOf ByteArray.empty tab (j : Int) = tab[j] := by simp [rdOf, List.getD_eq_getElem?_getD, List.getElem?_eq_getElem hj1]
        rw [e]
        exact of_decide_eq_true (List.all_eq_true.mp hsz _ (List.getElem_mem hj1))
      have hq : ∃ q : Nat, q < 4 ∧ Go.bits .and .i64 ((rd l (i : Int)) / 65536) 3 = (q : Int) := ⟨(((rd l (i : Int)) / 65536) % 4).toNat, by omega, by rw [and3]; omega⟩
      obtain ⟨q, hq1, hq2⟩ := hq
      have hbl : (bytesOf (rdOf ByteArray.empty tab (j : Int))).length ≤ 20 := by rw [bytesOf_length]; exact hs
      have hbq : 0 ≤ bt (⟨#[32, 10, 9, 32]⟩ : ByteArray) (q : Int) ∧ bt (⟨#[32, 10, 9, 32]⟩ : ByteArray) (q : Int) < 256 := by
        have : q = 0 ∨ q = 1 ∨ q = 2 ∨ q = 3 := by omega
        rcases this with rfl | rfl | rfl | rfl <;> decide
      obtain ⟨t, ht, htl2, htB⟩ := ih (i + 1) (acc ++ bytesOf (rdOf ByteArray.empty tab (j : Int)) ++ [bt (⟨#[32, 10, 9, 32]⟩ : ByteArray) (q : Int)]) (by omega) (by simp only [List.length_append, List.length_singleton]; omega) (by
        intro x hx
        rcases List.mem_append.mp hx with hx | hx
        · rcases List.mem_append.mp hx with hx | hx
          · exact hB x hx
          · exact bytesOf_byte _ x hx
        · rw [List.mem_singleton.mp hx]
          exact hbq)
      refine ⟨t, Ev.step (fun k => ?_) ht, htl2, htB⟩
      simp only [glebelaw8_Text.l0]
      rw [if_pos hl, if_pos (by omega), if_pos (by omega), if_neg (by omega), hj2, if_pos (by omega), if_pos (by omega), if_pos (by omega), Option.bind_some, hq2, if_pos (by omega), if_pos (by omega), if_pos (by simp only [List.length_append]; omega), wrap_nat (by omega)]
    · refine ⟨acc, Ev.step (f := fun _ => some acc) (fun k => ?_) (Ev.now _), by omega, hB⟩
      simp only [glebelaw8_Text.l0]
      rw [if_neg hl]
theorem Text_run (l : List Int) : ∃ t, Ev (fun k => glebelaw8_Text.f k l) t ∧ t.length ≤ 1260 ∧ ∀ x ∈ t, 0 ≤ x ∧ x < 256 := by
  unfold glebelaw8_Text.f
  exact Text_loop _ (by decide) (by kernel_rfl) (by decide) l 60 0 [] rfl (by simp) (by simp)
end Go.Proofs.Ytnkcffmklomfhaa.IsctS
