/- The signs of bytes: what the document's reader comes to; a text in quotes. -/
import Derived.Test.YtnkcffmklomfhaaIsctT
import Derived.Test.YtnkcffmklomfhaaXx6
import Derived.Test.YtnkcffmklomfhaaXx7
import Derived.Test.YtnkcffmklomfhaaXx8
import Derived.Test.YtnkcffmklomfhaaXx9
import Derived.Test.YtnkcffmklomfhaaXx10
import Derived.Test.YtnkcffmklomfhaaXx11
namespace Go.Proofs.Ytnkcffmklomfhaa.IsctS
open Go Go.RowKit Go.Proofs.YtnkcffmklomfhaaW.PrintWords Go.Proofs.Ytnkcffmklomfhaa.PL Go.Proofs.Ytnkcffmklomfhaa.X
set_option linter.unusedSimpArgs false
set_option linter.unusedVariables false
theorem rword_f (c : Int) (h0 : 0 ≤ c) (h1 : c < 256) : gleberef7_word.f c = some (isW c) :=
  eq_of_beq (byteB (p := fun c => gleberef7_word.f c == some (isW c)) (by kernel_rfl) c h0 h1)
def refOut : TR → ByteArray × Int × Int
  | .ok t _ n => (strOfNums t, (n : Int), -1)
  | .bad n => (⟨#[]⟩, 0, (n : Int))
theorem isP_iff (c : Int) : isP c = true ↔ 32 ≤ c ∧ c ≤ 126 := by simp [isP]
theorem rtext_run (b : List Int) (hb : b.length < 100000000) : ∀ (m : Nat) (l : List Int) (n : Nat) (acc : List Int), l.length ≤ m → b.drop n = l → n ≤ b.length → acc.length ≤ n →
    Ev (fun k => gleberef7_text.l0 k b (n : Int) acc) (refOut (textS l n acc)) := by
  intro m
  induction m with
  | zero =>
    intro l n acc hm h hn ha
    obtain rfl : l = [] := List.eq_nil_of_length_eq_zero (by omega)
    have := dn h hn
    refine Ev.step (f := fun _ => some _) (fun k => ?_) (Ev.now _)
    simp only [gleberef7_text.l0]
    rw [if_neg (by omega), this]
    rfl
  | succ m ih =>
    intro l n acc hm h hn ha
    cases l with
    | nil =>
      have := dn h hn
      refine Ev.step (f := fun _ => some _) (fun k => ?_) (Ev.now _)
      simp only [gleberef7_text.l0]
      rw [if_neg (by omega), this]
      rfl
    | cons c l =>
      obtain ⟨h1, h2, h3, h4⟩ := dc h
      by_cases hq : c = 34
      · have e : textS (c :: l) n acc = .ok acc l (n + 1) := by
          rw [textS.eq_def]
          simp [hq]
        rw [e]
        refine Ev.step (f := fun _ => some _) (fun k => ?_) (Ev.now _)
        simp only [gleberef7_text.l0]
        rw [if_pos (by omega), if_pos (by omega), h2, if_pos hq, wrap_nat (by omega)]
        rfl
      · by_cases hs : c = 92
        · have hp : isP c = true := by rw [isP_iff]; omega
          have hp92 : isP 92 = true := by decide
          cases l with
          | nil =>
            have hlen : b.length = n + 1 := by simpa using h4
            have e : textS [c] n acc = .bad (n + 1) := by
              rw [textS.eq_def]
              simp [hs, hp92]
            rw [e]
            refine Ev.step (f := fun _ => some _) (fun k => ?_) (Ev.now _)
            simp only [gleberef7_text.l0]
            rw [if_pos (by omega), if_pos (by omega), h2, if_neg hq, if_pos hs, wrap_nat (by omega), if_pos (by omega), hlen]
            rfl
          | cons d l =>
            obtain ⟨g1, g2, g3, g4⟩ := dc h3
            by_cases hdq : d = 34 ∨ d = 92
            · have e : textS (c :: d :: l) n acc = textS l (n + 2) (acc ++ [d]) := by
                rw [textS.eq_def]
                simp [hs, hp92, hdq]
              rw [e]
              refine Ev.step (f := fun k => gleberef7_text.l0 k b ((n + 2 : Nat) : Int) (acc ++ [d])) (fun k => ?_) (ih l (n + 2) (acc ++ [d]) (by simp at hm; omega) g3 (by omega) (by simp; omega))
              simp only [gleberef7_text.l0]
              rw [if_pos (by omega), if_pos (by omega), h2, if_neg hq, if_pos hs, wrap_nat (by omega), if_neg (by omega), if_pos (by omega), if_pos (by omega), g2, wrap_nat (by omega)]
              rcases hdq with hdq | hdq
              · rw [if_pos hdq, if_pos (by omega)]
              · rw [if_neg (by omega), if_pos hdq, if_pos (by omega)]
            · have e : textS (c :: d :: l) n acc = .bad (n + 1) := by
                rw [textS.eq_def]
                simp [hs, hp92, hdq]
              rw [e]
              refine Ev.step (f := fun _ => some _) (fun k => ?_) (Ev.now _)
              simp only [gleberef7_text.l0]
              rw [if_pos (by omega), if_pos (by omega), h2, if_neg hq, if_pos hs, wrap_nat (by omega), if_neg (by omega), if_pos (by omega), if_pos (by omega), g2, if_neg (fun h => hdq (.inl h)), if_neg (fun h => hdq (.inr h))]
              rfl
        · by_cases hp : isP c = true
          · have e : textS (c :: l) n acc = textS l (n + 1) (acc ++ [c]) := by
              rw [textS.eq_def]
              simp [hq, hp, hs]
            rw [e]
            rw [isP_iff] at hp
            refine Ev.step (f := fun k => gleberef7_text.l0 k b ((n + 1 : Nat) : Int) (acc ++ [c])) (fun k => ?_) (ih l (n + 1) (acc ++ [c]) (by simp at hm; omega) h3 (by omega) (by simp; omega))
            simp only [gleberef7_text.l0]
            rw [if_pos (by omega), if_pos (by omega), h2, if_neg hq, if_neg hs, if_neg (by omega), if_neg (by omega), if_pos (by omega), wrap_nat (by omega)]
          · have e : textS (c :: l) n acc = .bad n := by
              rw [textS.eq_def]
              simp [hq, hp]
            rw [e]
            rw [isP_iff] at hp
            refine Ev.step (f := fun _ => some _) (fun k => ?_) (Ev.now _)
            simp only [gleberef7_text.l0]
            rw [if_pos (by omega), if_pos (by omega), h2, if_neg hq, if_neg hs]
            by_cases h32 : c < 32
            · rw [if_pos h32]
              rfl
            · rw [if_neg h32, if_pos (by omega)]
              rfl
theorem rcomment_run (b : List Int) (hb : b.length < 100000000) (acc : List S33) (r : List S33 × Int × Int) : ∀ (l : List Int) (n : Nat), b.drop n = l → n ≤ b.length →
    Ev (fun k => gleberef7_Tokens.l0 k b acc ((n + (l.takeWhile notNl).length : Nat) : Int)) r → Ev (fun k => gleberef7_Tokens.l1 k b acc (n : Int)) r := by
  intro l
  induction l with
  | nil =>
    intro n h hn he
    have := dn h hn
    refine Ev.step (f := fun k => gleberef7_Tokens.l0 k b acc (n : Int)) (fun k => ?_) he
    simp only [gleberef7_Tokens.l1]
    rw [if_neg (by omega)]
  | cons c l ih =>
    intro n h hn he
    obtain ⟨h1, h2, h3, h4⟩ := dc h
    by_cases hc : c = 10
    · have e : n + ((c :: l).takeWhile notNl).length = n := by simp [List.takeWhile_cons, notNl, hc]
      rw [e] at he
      refine Ev.step (f := fun k => gleberef7_Tokens.l0 k b acc (n : Int)) (fun k => ?_) he
      simp only [gleberef7_Tokens.l1]
      rw [if_pos (by omega), if_pos (by omega), h2, if_pos hc]
    · have e : n + ((c :: l).takeWhile notNl).length = n + 1 + (l.takeWhile notNl).length := by
        simp [List.takeWhile_cons, notNl, hc]
        omega
      rw [e] at he
      refine Ev.step (f := fun k => gleberef7_Tokens.l1 k b acc ((n + 1 : Nat) : Int)) (fun k => ?_) (ih (n + 1) h3 (by omega) he)
      simp only [gleberef7_Tokens.l1]
      rw [if_pos (by omega), if_pos (by omega), h2, if_neg hc, wrap_nat (by omega)]
theorem rwords_run (b : List Int) (hb : b.length < 100000000) (hB : ∀ x ∈ b, 0 ≤ x ∧ x < 256) (acc : List S33) (ha : acc.length ≤ b.length) (r : List S33 × Int × Int) (i : Nat) : ∀ (l : List Int) (n : Nat), b.drop n = l → n ≤ b.length → i ≤ n →
    (255 < n + (l.takeWhile isW).length - i → r = ([], 2, (i : Int))) →
    (¬ 255 < n + (l.takeWhile isW).length - i → Ev (fun k => gleberef7_Tokens.l0 k b (acc ++ [⟨2, strOfNums ((b.take (n + (l.takeWhile isW).length)).drop i), (i : Int)⟩]) ((n + (l.takeWhile isW).length : Nat) : Int)) r) →
    Ev (fun k => gleberef7_Tokens.l2 k b acc (i : Int) (n : Int)) r := by
  intro l
  have fin : ∀ n : Nat, n ≤ b.length → i ≤ n → (255 < n - i → r = ([], 2, (i : Int))) → (¬ 255 < n - i → Ev (fun k => gleberef7_Tokens.l0 k b (acc ++ [⟨2, strOfNums ((b.take n).drop i), (i : Int)⟩]) (n : Int)) r) →
      Ev (fun k => (if (wrap64 ((n : Int) - (i : Int))) > 255 then (some (([] : List (S33)), 2, (i : Int))) else (if 0 ≤ (i : Int) then (if (i : Int) ≤ (n : Int) then (if (n : Int) ≤ (b.length : Int) then (if acc.length < 4398046511104 then (gleberef7_Tokens.l0 k b (acc ++ [(⟨2, strOfNums ((b.take ((n : Int) : Int).toNat).drop ((i : Int) : Int).toNat), (i : Int)⟩ : S33)]) (n : Int)) else (none)) else (none)) else (none)) else (none)))) r := by
    intro n hn hi h1 h2
    rw [wrap_in (by omega) (by omega)]
    by_cases hl : 255 < n - i
    · rw [h1 hl]
      exact Ev.congr (f := fun _ => some _) (fun k => by rw [if_pos (by omega)]) (Ev.now _)
    · refine Ev.congr (fun k => ?_) (h2 hl)
      rw [if_neg (by omega), if_pos (by omega), if_pos (by omega), if_pos (by omega), if_pos (by omega), Int.toNat_natCast, Int.toNat_natCast]
  induction l with
  | nil =>
    intro n h hn hi he1 he2
    have := dn h hn
    refine Ev.step (fun k => ?_) (fin n hn hi he1 he2)
    simp only [gleberef7_Tokens.l2]
    rw [if_neg (by omega)]
  | cons c l ih =>
    intro n h hn hi he1 he2
    obtain ⟨h1, h2, h3, h4⟩ := dc h
    have hc := hB c (by rw [← List.take_append_drop n b, h]; simp)
    by_cases hw : isW c = true
    · have e : n + ((c :: l).takeWhile isW).length = n + 1 + (l.takeWhile isW).length := by
        simp [List.takeWhile_cons, hw]
        omega
      rw [e] at he1 he2
      refine Ev.step (f := fun k => gleberef7_Tokens.l2 k b acc (i : Int) ((n + 1 : Nat) : Int)) (fun k => ?_) (ih (n + 1) h3 (by omega) (by omega) he1 he2)
      simp only [gleberef7_Tokens.l2]
      rw [if_pos (by omega), if_pos (by omega), h2, rword_f c hc.1 hc.2, Option.bind_some, if_pos hw, wrap_nat (by omega)]
    · have e : n + ((c :: l).takeWhile isW).length = n := by simp [List.takeWhile_cons, hw]
      rw [e] at he1 he2
      refine Ev.step (fun k => ?_) (fin n hn hi he1 he2)
      simp only [gleberef7_Tokens.l2]
      rw [if_pos (by omega), if_pos (by omega), h2, rword_f c hc.1 hc.2, Option.bind_some, if_neg hw]
theorem rtoks_run (b : List Int) (hb : b.length < 100000000) (hB : ∀ x ∈ b, 0 ≤ x ∧ x < 256) : ∀ (m : Nat) (l : List Int) (n : Nat) (acc : List S33), l.length < m → b.drop n = l → n ≤ b.length → acc.length ≤ n →
    Ev (fun k => gleberef7_Tokens.l0 k b acc (n : Int)) (toks m l n acc) := by
  intro m
  induction m with
  | zero => intro l n acc hm; omega
  | succ m ih =>
    intro l n acc hm h hn ha
    cases l with
    | nil =>
      have := dn h hn
      refine Ev.step (f := fun _ => some _) (fun k => ?_) (Ev.now _)
      simp only [gleberef7_Tokens.l0]
      rw [if_neg (by omega)]
      rfl
    | cons c l =>
      obtain ⟨h1, h2, h3, h4⟩ := dc h
      have hc := hB c (by rw [← List.take_append_drop n b, h]; simp)
      have hat := step_at h
      simp only [toks]
      refine Ev.step (f := fun k => gleberef7_Tokens.j1 k b acc (n : Int) c (isB c)) (fun k => ?_) ?_
      · simp only [gleberef7_Tokens.l0]
        rw [if_pos (by omega), if_pos (by omega), h2]
        by_cases x1 : c = 32
        · rw [if_pos x1, show isB c = true by simp [isB, x1]]
        · rw [if_neg x1]
          by_cases x2 : c = 9
          · rw [if_pos x2, show isB c = true by simp [isB, x2]]
          · rw [if_neg x2]
            by_cases x3 : c = 10
            · rw [if_pos x3, show isB c = true by simp [isB, x3]]
            · rw [if_neg x3, show isB c = (c == 13) by rw [isB, beq_false_of_ne x1, beq_false_of_ne x2, beq_false_of_ne x3]; simp]
      · by_cases hbl : isB c = true
        · have e : stp c l n = .go none l (n + 1) := by unfold stp; rw [if_pos hbl]
          rw [e, hbl]
          refine Ev.step (f := fun k => gleberef7_Tokens.l0 k b acc ((n + 1 : Nat) : Int)) (fun k => ?_) ?_
          · simp only [gleberef7_Tokens.j1]
            rw [if_pos trivial, wrap_nat (by omega)]
          · simpa using ih l (n + 1) acc (by simp at hm; omega) h3 (by omega) (by omega)
        · have hbf : isB c = false := by simpa using hbl
          rw [hbf]
          by_cases hcm : c = 35
          · have e : stp c l n = .go none (l.dropWhile notNl) (n + 1 + (l.takeWhile notNl).length) := by unfold stp; rw [if_neg hbl, if_pos hcm]
            rw [e] at hat ⊢
            refine Ev.step (f := fun k => gleberef7_Tokens.l1 k b acc (n : Int)) (fun k => ?_) (rcomment_run b hb acc _ (c :: l) n h (by omega) ?_)
            · simp only [gleberef7_Tokens.j1]
              rw [if_neg (by simp), if_pos hcm]
            · have e2 : n + ((c :: l).takeWhile notNl).length = n + 1 + (l.takeWhile notNl).length := by
                subst hcm
                simp [List.takeWhile_cons, notNl]
                omega
              rw [e2]
              simpa using ih _ _ acc (by simp at hm; omega) hat.1 hat.2.2.1 (by omega)
          · refine Ev.step (f := fun k => gleberef7_Tokens.j3 k b acc (n : Int) c (isS c)) (fun k => ?_) ?_
            · simp only [gleberef7_Tokens.j1]
              rw [if_neg (by simp), if_neg hcm]
              by_cases x1 : c = 123
              · rw [if_pos x1, show isS c = true by simp [isS, x1]]
              · rw [if_neg x1]
                by_cases x2 : c = 125
                · rw [if_pos x2, show isS c = true by simp [isS, x2]]
                · rw [if_neg x2]
                  by_cases x3 : c = 59
                  · rw [if_pos x3, show isS c = true by simp [isS, x3]]
                  · rw [if_neg x3, show isS c = (c == 44) by rw [isS, beq_false_of_ne x1, beq_false_of_ne x2, beq_false_of_ne x3]; simp]
            · by_cases hs : isS c = true
              · have hw : isW c = false := by
                  simp [isS] at hs
                  rcases hs with ((rfl | rfl) | rfl) | rfl <;> decide
                have hq : c ≠ 34 := by
                  rintro rfl
                  simp [isS] at hs
                have e : stp c l n = .go (some ⟨4, strOfNums [c], (n : Int)⟩) l (n + 1) := by
                  unfold stp
                  rw [if_neg hbl, if_neg hcm, if_neg (by rw [hw]; simp), if_neg hq, if_pos hs]
                rw [e, hs]
                have et : (b.take (n + 1)).drop n = [c] := by
                  rw [List.drop_take, h]
                  have : n + 1 - n = 1 := by omega
                  rw [this]
                  rfl
                refine Ev.step (f := fun k => gleberef7_Tokens.l0 k b (acc ++ [⟨4, strOfNums [c], (n : Int)⟩]) ((n + 1 : Nat) : Int)) (fun k => ?_) (ih l (n + 1) _ (by simp at hm; omega) h3 (by omega) (by simp; omega))
                simp only [gleberef7_Tokens.j3]
                rw [if_pos trivial, if_pos (by omega), wrap_nat (by omega), if_pos (by omega), if_pos (by omega), if_pos (by omega), Int.toNat_natCast, Int.toNat_natCast, et]
              · have hsf : isS c = false := by simpa using hs
                rw [hsf]
                by_cases hq : c = 34
                · have hw : ¬ isW c = true := by rw [hq]; decide
                  have hr := rtext_run b hb l.length l (n + 1) [] (Nat.le_refl _) h3 (by omega) (by simp)
                  have e : stp c l n = (match textS l (n + 1) [] with | .bad m => .err 1 m | .ok t l' m => if 255 < t.length then .err 2 n else .go (some ⟨3, strOfNums t, (n : Int)⟩) l' m) := by
                    unfold stp
                    rw [if_neg hbl, if_neg hcm, if_neg hw, if_pos hq]
                    cases textS l (n + 1) [] <;> rfl
                  rw [e] at hat ⊢
                  have hta := textS_at l.length l (n + 1) [] b (Nat.le_refl _) h3 (by omega) (by simp)
                  revert hr hat hta
                  cases textS l (n + 1) [] with
                  | bad a =>
                    intro hat hr hta
                    refine Ev.step (f := fun k => (gleberef7_text.f k b ((n + 1 : Nat) : Int)).bind fun bt309 => (if bt309.2.2 ≥ 0 then ((gleberef7_syntax.f bt309.2.2).bind fun bt312 => (some (([] : List (S33)), bt312.1, bt312.2))) else (if (bt309.1.size : Int) > 255 then (some (([] : List (S33)), 2, (n : Int))) else (if acc.length < 4398046511104 then (gleberef7_Tokens.l0 k b (acc ++ [(⟨3, bt309.1, (n : Int)⟩ : S33)]) bt309.2.1) else (none))))) (fun k => ?_) (Ev.bind (g := fun k => gleberef7_text.f k b ((n + 1 : Nat) : Int)) hr (Ev.congr (f := fun _ => some ([], 1, (a : Int))) (fun k => ?_) (Ev.now _)))
                    · simp only [gleberef7_Tokens.j3]
                      rw [if_neg (by simp), if_pos hq, wrap_nat (by omega)]
                    · dsimp only [refOut]
                      rw [if_pos (by omega)]
                      rfl
                  | ok t l' n' =>
                    intro hat hr hta
                    dsimp only at hat hta
                    refine Ev.step (f := fun k => (gleberef7_text.f k b ((n + 1 : Nat) : Int)).bind fun bt309 => (if bt309.2.2 ≥ 0 then ((gleberef7_syntax.f bt309.2.2).bind fun bt312 => (some (([] : List (S33)), bt312.1, bt312.2))) else (if (bt309.1.size : Int) > 255 then (some (([] : List (S33)), 2, (n : Int))) else (if acc.length < 4398046511104 then (gleberef7_Tokens.l0 k b (acc ++ [(⟨3, bt309.1, (n : Int)⟩ : S33)]) bt309.2.1) else (none))))) (fun k => ?_) (Ev.bind (g := fun k => gleberef7_text.f k b ((n + 1 : Nat) : Int)) hr ?_)
                    · simp only [gleberef7_Tokens.j3]
                      rw [if_neg (by simp), if_pos hq, wrap_nat (by omega)]
                    · dsimp only [refOut]
                      by_cases hl : 255 < t.length
                      · rw [if_pos hl]
                        refine Ev.congr (f := fun _ => some ([], 2, (n : Int))) (fun k => ?_) (Ev.now _)
                        rw [if_neg (by omega), if_pos (by rw [size_strOf]; omega)]
                      · rw [if_neg hl]
                        refine Ev.congr (f := fun k => gleberef7_Tokens.l0 k b (acc ++ [⟨3, strOfNums t, (n : Int)⟩]) (n' : Int)) (fun k => ?_) (ih l' n' _ (by simp at hm; omega) hta.1 hta.2.2.1 (by simp; omega))
                        rw [if_neg (by omega), if_neg (by rw [size_strOf]; omega), if_pos (by omega)]
                · by_cases hw : isW c = true
                  · have e : stp c l n = (if 255 < ((c :: l).takeWhile isW).length then .err 2 n else .go (some ⟨2, strOfNums ((c :: l).takeWhile isW), (n : Int)⟩) ((c :: l).dropWhile isW) (n + ((c :: l).takeWhile isW).length)) := by
                      unfold stp
                      rw [if_neg hbl, if_neg hcm, if_pos hw]
                    rw [e] at hat ⊢
                    have et : (b.take (n + ((c :: l).takeWhile isW).length)).drop n = (c :: l).takeWhile isW := by
                      rw [List.drop_take, h]
                      have : n + ((c :: l).takeWhile isW).length - n = ((c :: l).takeWhile isW).length := by omega
                      rw [this, take_tw]
                    have hp : 0 < ((c :: l).takeWhile isW).length := by simp [List.takeWhile_cons, hw]
                    refine Ev.step (f := fun k => gleberef7_Tokens.l2 k b acc (n : Int) (n : Int)) (fun k => ?_) (rwords_run b hb hB acc (by omega) _ n (c :: l) n h (by omega) (Nat.le_refl _) (fun h5 => ?_) (fun h5 => ?_))
                    · simp only [gleberef7_Tokens.j3]
                      rw [if_neg (by simp), if_neg hq, rword_f c hc.1 hc.2, Option.bind_some, if_pos hw]
                    · rw [if_pos (by omega)]
                    · rw [if_neg (by omega)] at hat ⊢
                      rw [et]
                      exact ih _ _ _ (by simp at hm hat; omega) hat.1 hat.2.2.1 (by simp; omega)
                  · have e : stp c l n = .err 1 n := by
                      unfold stp
                      rw [if_neg hbl, if_neg hcm, if_neg hw, if_neg hq, if_neg hs]
                    rw [e]
                    refine Ev.step (f := fun _ => some ([], 1, (n : Int))) (fun k => ?_) (Ev.now _)
                    simp only [gleberef7_Tokens.j3]
                    rw [if_neg (by simp), if_neg hq, rword_f c hc.1 hc.2, Option.bind_some, if_neg hw]
                    rfl
theorem rTokens_run (b : List Int) (hb : b.length ≤ 1000000) (hB : ∀ x ∈ b, 0 ≤ x ∧ x < 256) : Ev (fun k => gleberef7_Tokens.f k b) (tokens b) := by
  refine Ev.congr (f := fun k => gleberef7_Tokens.l0 k b [] ((0 : Nat) : Int)) (fun k => ?_) (rtoks_run b (by omega) hB _ b 0 [] (by omega) rfl (by omega) (by simp))
  unfold gleberef7_Tokens.f gleberef7_Long.f
  rw [if_neg (by omega), Option.bind_some]
  rfl
theorem toks_len : ∀ (m : Nat) (l : List Int) (n : Nat) (acc : List S33) (b : List Int), b.drop n = l → n ≤ b.length → acc.length ≤ n → (toks m l n acc).1.length ≤ b.length := by
  intro m
  induction m with
  | zero => intro l n acc b h hn ha; simp only [toks]; omega
  | succ m ih =>
    intro l n acc b h hn ha
    cases l with
    | nil => simp only [toks]; omega
    | cons c l =>
      have hat := step_at h
      simp only [toks]
      revert hat
      cases stp c l n with
      | err k a => intro hat; simp
      | go t l' n' =>
        intro hat
        refine ih l' n' _ b hat.1 hat.2.2.1 ?_
        rw [List.length_append]
        have : t.toList.length ≤ 1 := by cases t <;> simp
        omega
theorem tokens_len (b : List Int) (hb : b.length ≤ 1000000) : (tokens b).1.length ≤ 1000000 := by
  have := toks_len (b.length + 1) b 0 [] b rfl (by omega) (by simp)
  unfold tokens
  omega
theorem Same_run (x : List S33) (hx : x.length ≤ 1000000) : Ev (fun k => gleberef7_SameToks.f k x x) true := by
  have hl : ∀ (d i : Nat), i + d = x.length → Ev (fun k => gleberef7_SameToks.l0 k x x (i : Int)) true := by
    intro d
    induction d with
    | zero =>
      intro i hi
      refine Ev.step (f := fun _ => some true) (fun k => ?_) (Ev.now _)
      simp only [gleberef7_SameToks.l0]
      rw [if_neg (by omega)]
    | succ d ih =>
      intro i hi
      refine Ev.step (f := fun k => gleberef7_SameToks.l0 k x x ((i + 1 : Nat) : Int)) (fun k => ?_) (ih (i + 1) (by omega))
      simp only [gleberef7_SameToks.l0]
      rw [if_pos (by omega), if_pos (by omega), if_pos (by omega), if_neg (by simp), wrap_nat (by omega)]
  refine Ev.congr (fun k => ?_) (hl x.length 0 (by omega))
  unfold gleberef7_SameToks.f
  rw [if_pos rfl]
  rfl
def esc (c : Int) : List Int := if isP c = true then (if c = 34 ∨ c = 92 then [92, c] else [c]) else []
def quoteS (l : List Int) : List Int := 34 :: (l.flatMap esc ++ [34])
theorem esc_len (c : Int) : (esc c).length ≤ 2 := by
  unfold esc
  split
  · split <;> simp
  · simp
theorem q_run (b : List Int) (hb : b.length ≤ 1000) (hB : ∀ x ∈ b, 0 ≤ x ∧ x < 256) : ∀ (l : List Int) (n : Nat) (acc : List Int), b.drop n = l → n ≤ b.length → acc.length ≤ 2 * n + 1 →
    Ev (fun k => isct_Quote.l0 k acc b (b.length : Int) (n : Int)) (strOfNums (acc ++ l.flatMap esc ++ [34])) := by
  intro l
  induction l with
  | nil =>
    intro n acc h hn ha
    have := dn h hn
    refine Ev.step (f := fun _ => some _) (fun k => ?_) (Ev.now _)
    simp only [isct_Quote.l0]
    rw [if_neg (by omega), if_pos (by omega)]
    simp
  | cons c l ih =>
    intro n acc h hn ha
    obtain ⟨h1, h2, h3, h4⟩ := dc h
    have hc := hB c (by rw [← List.take_append_drop n b, h]; simp)
    have e : acc ++ (c :: l).flatMap esc ++ [34] = (acc ++ esc c) ++ l.flatMap esc ++ [34] := by simp
    rw [e]
    have hl := esc_len c
    refine Ev.step (f := fun k => isct_Quote.l0 k (acc ++ esc c) b (b.length : Int) ((n + 1 : Nat) : Int)) (fun k => ?_) (ih (n + 1) _ h3 (by omega) (by simp; omega))
    simp only [isct_Quote.l0]
    rw [if_pos (by omega), if_pos (by omega), if_pos (by omega), h2, plain_f c hc.1 hc.2, Option.bind_some, wrap_nat (by omega)]
    by_cases hp : isP c = true
    · rw [if_pos hp]
      by_cases h34 : c = 34
      · rw [if_pos h34, if_pos (by omega), Option.bind_some, if_pos (by simp; omega)]
        have : esc c = [92, c] := by simp [esc, hp, h34]; decide
        rw [this]
        simp
      · rw [if_neg h34]
        by_cases h92 : c = 92
        · rw [if_pos h92, if_pos (by omega), Option.bind_some, if_pos (by simp; omega)]
          have : esc c = [92, c] := by simp [esc, hp, h92]; decide
          rw [this]
          simp
        · rw [if_neg h92, if_pos (by omega)]
          have : esc c = [c] := by simp [esc, hp, h34, h92]
          rw [this]
    · rw [if_neg hp]
      have : esc c = [] := by simp [esc, hp]
      rw [this]
      simp
theorem bytesOf_byte (s : ByteArray) : ∀ x ∈ bytesOf s, 0 ≤ x ∧ x < 256 := by
  intro x hx
  simp only [bytesOf, List.mem_map] at hx
  obtain ⟨u, _, rfl⟩ := hx
  have := u.toNat_lt
  omega
theorem Quote_run (s : ByteArray) (hs : s.size ≤ 1000) : Ev (fun k => isct_Quote.f k s) (strOfNums (quoteS (bytesOf s))) := by
  have h := q_run (bytesOf s) (by rw [bytesOf_length]; exact hs) (bytesOf_byte s) (bytesOf s) 0 [34] rfl (by omega) (by simp)
  refine Ev.congr (fun k => ?_) h
  unfold isct_Quote.f
  rw [if_pos (by omega), Option.bind_some]
  rfl
theorem bt_rd (s : ByteArray) (n : Nat) : bt s (n : Int) = rd (bytesOf s) (n : Int) := (rd_bytesOf s _).symm
theorem rq_run (s : ByteArray) (hs : s.size ≤ 1000) : ∀ (l : List Int) (n : Nat) (acc : List Int), (bytesOf s).drop n = l → n ≤ s.size → acc.length ≤ 2 * n + 1 →
    Ev (fun k => gleberef7_Quote.l0 k s acc (n : Int)) (strOfNums (acc ++ l.flatMap esc ++ [34])) := by
  have hbl := bytesOf_length s
  intro l
  induction l with
  | nil =>
    intro n acc h hn ha
    have := dn h (by omega)
    refine Ev.step (f := fun _ => some _) (fun k => ?_) (Ev.now _)
    simp only [gleberef7_Quote.l0]
    rw [if_neg (by omega), if_pos (by omega)]
    simp
  | cons c l ih =>
    intro n acc h hn ha
    obtain ⟨h1, h2, h3, h4⟩ := dc h
    have e : acc ++ (c :: l).flatMap esc ++ [34] = (acc ++ esc c) ++ l.flatMap esc ++ [34] := by simp
    rw [e]
    have hl := esc_len c
    have hbt : bt s (n : Int) = c := by rw [bt_rd]; exact h2
    have hnext := ih (n + 1) (acc ++ esc c) h3 (by omega) (by simp; omega)
    refine Ev.step (f := fun k => gleberef7_Quote.j1 k s acc (n : Int) (!isP c)) (fun k => ?_) (Ev.step (f := fun k => gleberef7_Quote.l0 k s (acc ++ esc c) ((n + 1 : Nat) : Int)) (fun k => ?_) hnext)
    · simp only [gleberef7_Quote.l0]
      rw [if_pos (by omega), if_pos (by omega), hbt]
      by_cases h32 : c < 32
      · rw [if_pos h32]
        have : isP c = false := by simp [isP]; omega
        rw [this]
        rfl
      · rw [if_neg h32]
        by_cases h126 : c > 126
        · have : isP c = false := by simp [isP]; omega
          rw [this, decide_eq_true h126]
          rfl
        · have : isP c = true := by rw [isP_iff]; omega
          rw [this, decide_eq_false h126]
          rfl
    · simp only [gleberef7_Quote.j1]
      by_cases hp : isP c = true
      · have hpf : (!isP c) = false := by rw [hp]; rfl
        rw [if_neg (by rw [hpf]; simp), if_pos (by omega), if_pos (by omega), hbt, wrap_nat (by omega)]
        by_cases h34 : c = 34
        · rw [if_pos h34, if_pos (by omega), Option.bind_some, if_pos (by simp; omega)]
          have : esc c = [92, c] := by simp [esc, hp, h34]; decide
          rw [this]
          simp
        · rw [if_neg h34]
          by_cases h92 : c = 92
          · rw [if_pos h92, if_pos (by omega), Option.bind_some, if_pos (by simp; omega)]
            have : esc c = [92, c] := by simp [esc, hp, h92]; decide
            rw [this]
            simp
          · rw [if_neg h92, if_pos (by omega)]
            have : esc c = [c] := by simp [esc, hp, h34, h92]
            rw [this]
      · have hpf : (!isP c) = true := by simpa using hp
        rw [if_pos hpf, wrap_nat (by omega)]
        have : esc c = [] := by simp [esc, hp]
        rw [this]
        simp
theorem rQuote_run (s : ByteArray) (hs : s.size ≤ 1000) : Ev (fun k => gleberef7_Quote.f k s) (strOfNums (quoteS (bytesOf s))) := by
  have h := rq_run s hs (bytesOf s) 0 [34] rfl (by omega) (by simp)
  exact Ev.congr (fun k => rfl) h
/-- Pieces of the tongue: few, and short. -/
theorem Text_loop (tab : List ByteArray) (htab : 0 < tab.length) (hsz : tab.all (fun s => decide (s.size ≤ 20)) = true) (htl : tab.length < 1000) (l : List Int) : ∀ (d i : Nat) (acc : List Int), i + d = 60 → acc.length ≤ 21 * i → (∀ x ∈ acc, 0 ≤ x ∧ x < 256) →
    ∃ t, Ev (fun k => glebelaw8_Text.l0 k l tab acc (i : Int)) t ∧ t.length ≤ 1260 ∧ ∀ x ∈ t, 0 ≤ x ∧ x < 256 := by
  intro d
  induction d with
  | zero =>
    intro i acc hi ha hB
    obtain rfl : i = 60 := by omega
    refine ⟨acc, Ev.step (f := fun _ => some acc) (fun k => ?_) (Ev.now _), by omega, hB⟩
    simp only [glebelaw8_Text.l0]
    by_cases hl : ((60 : Nat) : Int) < (l.length : Int)
    · rw [if_pos hl, if_neg (by omega)]
    · rw [if_neg hl]
  | succ d ih =>
    intro i acc hi ha hB
    by_cases hl : (i : Int) < (l.length : Int)
    · have hj : ∃ j : Nat, j < tab.length ∧ Int.tmod (Go.bits .and .i64 (rd l (i : Int)) 65535) (tab.length : Int) = (j : Int) := by
        refine ⟨((rd l (i : Int) % 65536) % (tab.length : Int)).toNat, ?_, ?_⟩
        · have := Int.emod_lt_of_pos (rd l (i : Int) % 65536) (show (0 : Int) < (tab.length : Int) by omega)
          omega
        · rw [and65535, tmod_nn (by omega)]
          have := Int.emod_nonneg (rd l (i : Int) % 65536) (show (tab.length : Int) ≠ 0 by omega)
          omega
      obtain ⟨j, hj1, hj2⟩ := hj
      have hs : (rdOf ByteArray.empty tab (j : Int)).size ≤ 20 := by
        have e : rdOf ByteArray.empty tab (j : Int) = tab[j] := by simp [rdOf, List.getD_eq_getElem?_getD, List.getElem?_eq_getElem hj1]
        rw [e]
        exact of_decide_eq_true (List.all_eq_true.mp hsz _ (List.getElem_mem hj1))
      have hq : ∃ q : Nat, q < 4 ∧ Go.bits .and .i64 ((rd l (i : Int)) / 65536) 3 = (q : Int) := ⟨(((rd l (i : Int)) / 65536) % 4).toNat, by omega, by rw [and3]; omega⟩
      obtain ⟨q, hq1, hq2⟩ := hq
      have hbl : (bytesOf (rdOf ByteArray.empty tab (j : Int))).length ≤ 20 := by rw [bytesOf_length]; exact hs
      have hbq : 0 ≤ bt (⟨#[32, 10, 9, 32]⟩ : ByteArray) (q : Int) ∧ bt (⟨#[32, 10, 9, 32]⟩ : ByteArray) (q : Int) < 256 := by
        have : q = 0 ∨ q = 1 ∨ q = 2 ∨ q = 3 := by omega
        rcases this with rfl | rfl | rfl | rfl <;> decide
      obtain ⟨t, ht, htl2, htB⟩ := ih (i + 1) (acc ++ bytesOf (rdOf ByteArray.empty tab (j : Int)) ++ [bt (⟨#[32, 10, 9, 32]⟩ : ByteArray) (q : Int)]) (by omega) (by simp only [List.length_append, List.length_singleton]; omega) (by
        intro x hx
        rcases List.mem_append.mp hx with hx | hx
        · rcases List.mem_append.mp hx with hx | hx
          · exact hB x hx
          · exact bytesOf_byte _ x hx
        · rw [List.mem_singleton.mp hx]
          exact hbq)
      refine ⟨t, Ev.step (fun k => ?_) ht, htl2, htB⟩
      simp only [glebelaw8_Text.l0]
      rw [if_pos hl, if_pos (by omega), if_pos (by omega), if_neg (by omega), hj2, if_pos (by omega), if_pos (by omega), if_pos (by omega), Option.bind_some, hq2, if_pos (by omega), if_pos (by omega), if_pos (by simp only [List.length_append]; omega), wrap_nat (by omega)]
    · refine ⟨acc, Ev.step (f := fun _ => some acc) (fun k => ?_) (Ev.now _), by omega, hB⟩
      simp only [glebelaw8_Text.l0]
      rw [if_neg hl]
theorem Text_run (l : List Int) : ∃ t, Ev (fun k => glebelaw8_Text.f k l) t ∧ t.length ≤ 1260 ∧ ∀ x ∈ t, 0 ≤ x ∧ x < 256 := by
  unfold glebelaw8_Text.f
  exact Text_loop _ (by decide) (by kernel_rfl) (by decide) l 60 0 [] rfl (by simp) (by simp)
end Go.Proofs.Ytnkcffmklomfhaa.IsctS
