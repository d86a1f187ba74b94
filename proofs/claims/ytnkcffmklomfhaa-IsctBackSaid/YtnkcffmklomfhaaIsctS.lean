/- Signs of the first tongue, in plain lists: what the program's reader and the document's reader both come to. -/
import Derived.Test.YtnkcffmklomfhaaXx3
import Derived.Test.YtnkcffmklomfhaaXx4
import Derived.Test.YtnkcffmklomfhaaXx5
import Derived.Test.YtnkcffmklomfhaaPL
namespace Go.Proofs.Ytnkcffmklomfhaa.IsctS
open Go Go.RowKit Go.Proofs.YtnkcffmklomfhaaW.PrintWords Go.Proofs.Ytnkcffmklomfhaa.PL Go.Proofs.Ytnkcffmklomfhaa.X
set_option linter.unusedSimpArgs false
set_option linter.unusedVariables false
def isW (c : Int) : Bool := (decide (97 ≤ c) && decide (c ≤ 122)) || (decide (65 ≤ c) && decide (c ≤ 90)) || (decide (48 ≤ c) && decide (c ≤ 57)) || c == 46 || c == 58 || c == 45 || c == 95 || c == 47
def isB (c : Int) : Bool := c == 32 || c == 9 || c == 13 || c == 10
def isP (c : Int) : Bool := decide (32 ≤ c) && decide (c ≤ 126)
def isS (c : Int) : Bool := c == 123 || c == 125 || c == 59 || c == 44
def notNl (c : Int) : Bool := !(c == 10)
theorem blank_f (c : Int) (h0 : 0 ≤ c) (h1 : c < 256) : isct_blank.f c = some (isB c) :=
  eq_of_beq (byteB (p := fun c => isct_blank.f c == some (isB c)) (by kernel_rfl) c h0 h1)
theorem plain_f (c : Int) (h0 : 0 ≤ c) (h1 : c < 256) : isct_plain.f c = some (isP c) :=
  eq_of_beq (byteB (p := fun c => isct_plain.f c == some (isP c)) (by kernel_rfl) c h0 h1)
theorem word_f (c : Int) (h0 : 0 ≤ c) (h1 : c < 256) : isct_word.f c = some (isW c) :=
  eq_of_beq (byteB (p := fun c => isct_word.f c == some (isW c)) (by kernel_rfl) c h0 h1)
theorem sign_f (c : Int) (h0 : 0 ≤ c) (h1 : c < 256) : ∃ i, strings_IndexByte.f (⟨#[123, 125, 59, 44]⟩ : ByteArray) c = some i ∧ (decide (i ≥ 0)) = isS c := by
  have h := byteB (p := fun c => match strings_IndexByte.f (⟨#[123, 125, 59, 44]⟩ : ByteArray) c with | some i => decide (i ≥ 0) == isS c | none => false) (by kernel_rfl) c h0 h1
  cases hi : strings_IndexByte.f (⟨#[123, 125, 59, 44]⟩ : ByteArray) c with
  | none => simp [hi] at h
  | some i => exact ⟨i, rfl, by simpa [hi] using h⟩
theorem comment_run (b : List Int) (hb : b.length < 4611686018427387904) : ∀ (l : List Int) (n : Nat), b.drop n = l → n ≤ b.length →
    Ev (fun k => isct_comment.l0 k b (n : Int)) ((n + (l.takeWhile notNl).length : Nat) : Int) := by
  intro l
  induction l with
  | nil =>
    intro n h hn
    have := dn h hn
    refine Ev.step (f := fun _ => some ((n + ([].takeWhile notNl).length : Nat) : Int)) (fun k => ?_) (Ev.now _)
    simp only [isct_comment.l0]
    rw [if_neg (by omega)]
    simp
  | cons c l ih =>
    intro n h hn
    obtain ⟨h1, h2, h3, h4⟩ := dc h
    by_cases hc : c = 10
    · subst hc
      refine Ev.step (f := fun _ => some ((n + ((10 :: l).takeWhile notNl).length : Nat) : Int)) (fun k => ?_) (Ev.now _)
      simp only [isct_comment.l0]
      rw [if_pos (by omega), if_pos (by omega), h2, if_pos rfl]
      simp [List.takeWhile_cons, notNl]
    · have e : n + ((c :: l).takeWhile notNl).length = n + 1 + (l.takeWhile notNl).length := by
        simp [List.takeWhile_cons, notNl, hc]
        omega
      rw [e]
      refine Ev.step (f := fun k => isct_comment.l0 k b ((n + 1 : Nat) : Int)) (fun k => ?_) (ih (n + 1) h3 (by omega))
      simp only [isct_comment.l0]
      rw [if_pos (by omega), if_pos (by omega), h2, if_neg hc, wrap_nat (by omega)]
theorem words_run (b : List Int) (hb : b.length < 4611686018427387904) (hB : ∀ x ∈ b, 0 ≤ x ∧ x < 256) (i : Nat) : ∀ (l : List Int) (n : Nat), b.drop n = l → n ≤ b.length → i ≤ n →
    Ev (fun k => isct_words.l0 k b (i : Int) (n : Int)) (2, strOfNums ((b.take (n + (l.takeWhile isW).length)).drop i), (i : Int), ((n + (l.takeWhile isW).length : Nat) : Int), 0, 0) := by
  intro l
  induction l with
  | nil =>
    intro n h hn hi
    have := dn h hn
    refine Ev.step (f := fun _ => some _) (fun k => ?_) (Ev.now _)
    simp only [isct_words.l0]
    rw [if_neg (by omega), if_pos (by omega), if_pos (by omega), if_pos (by omega)]
    simp
  | cons c l ih =>
    intro n h hn hi
    obtain ⟨h1, h2, h3, h4⟩ := dc h
    have hc := hB c (by rw [← List.take_append_drop n b, h]; simp)
    by_cases hw : isW c = true
    · have e : n + ((c :: l).takeWhile isW).length = n + 1 + (l.takeWhile isW).length := by
        simp [List.takeWhile_cons, hw]
        omega
      rw [e]
      refine Ev.step (f := fun k => isct_words.l0 k b (i : Int) ((n + 1 : Nat) : Int)) (fun k => ?_) (ih (n + 1) h3 (by omega) (by omega))
      simp only [isct_words.l0]
      rw [if_pos (by omega), if_pos (by omega), h2, word_f c hc.1 hc.2]
      simp only [Option.bind_some]
      rw [if_pos hw, wrap_nat (by omega)]
    · refine Ev.step (f := fun _ => some _) (fun k => ?_) (Ev.now _)
      simp only [isct_words.l0]
      rw [if_pos (by omega), if_pos (by omega), h2, word_f c hc.1 hc.2]
      simp only [Option.bind_some]
      rw [if_neg hw, if_pos (by omega), if_pos (by omega), if_pos (by omega)]
      simp [List.takeWhile_cons, hw]
inductive TR where
  | ok (t l : List Int) (n : Nat)
  | bad (n : Nat)
def textS : List Int → Nat → List Int → TR
  | [], n, _ => .bad n
  | c :: l, n, acc => if c = 34 then .ok acc l (n + 1) else if isP c = true then (if c = 92 then (match l with
      | [] => .bad (n + 1)
      | d :: l' => if d = 34 ∨ d = 92 then textS l' (n + 2) (acc ++ [d]) else .bad (n + 1))
    else textS l (n + 1) (acc ++ [c])) else .bad n
def trOut (a : Int) : TR → Int × ByteArray × Int × Int × Int × Int
  | .ok t _ n => (3, strOfNums t, a, (n : Int), 0, 0)
  | .bad n => (0, ⟨#[]⟩, 0, 0, 1, (n : Int))
theorem text_run (b : List Int) (hb : b.length < 100000000) (hB : ∀ x ∈ b, 0 ≤ x ∧ x < 256) (a : Int) : ∀ (m : Nat) (l : List Int) (n : Nat) (acc : List Int), l.length ≤ m → b.drop n = l → n ≤ b.length → acc.length ≤ n →
    Ev (fun k => isct_text.l0 k b a acc (n : Int)) (trOut a (textS l n acc)) := by
  intro m
  induction m with
  | zero =>
    intro l n acc hm h hn ha
    obtain rfl : l = [] := List.eq_nil_of_length_eq_zero (by omega)
    have := dn h hn
    refine Ev.step (f := fun _ => some _) (fun k => ?_) (Ev.now _)
    simp only [isct_text.l0]
    rw [if_neg (by omega), this]
    rfl
  | succ m ih =>
    intro l n acc hm h hn ha
    cases l with
    | nil =>
      have := dn h hn
      refine Ev.step (f := fun _ => some _) (fun k => ?_) (Ev.now _)
      simp only [isct_text.l0]
      rw [if_neg (by omega), this]
      rfl
    | cons c l =>
      obtain ⟨h1, h2, h3, h4⟩ := dc h
      have hc := hB c (by rw [← List.take_append_drop n b, h]; simp)
      by_cases hq : c = 34
      · subst hq
        have e : textS (34 :: l) n acc = .ok acc l (n + 1) := by
          rw [textS.eq_def]
          simp
        rw [e]
        refine Ev.step (f := fun _ => some _) (fun k => ?_) (Ev.now _)
        simp only [isct_text.l0]
        rw [if_pos (by omega), if_pos (by omega), h2, if_pos rfl, wrap_nat (by omega)]
        rfl
      · by_cases hp : isP c = true
        · by_cases hs : c = 92
          · subst hs
            cases l with
            | nil =>
              have hlen : b.length = n + 1 := by simpa using h4
              have e : textS [92] n acc = .bad (n + 1) := by simp [textS, hp]
              rw [e]
              refine Ev.step (f := fun k => isct_text.j1 k b a acc (n : Int) 92 false) (fun k => ?_) ?_
              · simp only [isct_text.l0]
                rw [if_pos (by omega), if_pos (by omega), h2, if_neg (by omega), plain_f 92 (by omega) (by omega), Option.bind_some, if_pos hp, if_pos rfl, wrap_nat (by omega), if_neg (by omega)]
              · refine Ev.step (f := fun k => isct_text.l0 k b a (acc ++ [92]) ((n + 1 : Nat) : Int)) (fun k => ?_) ?_
                · simp only [isct_text.j1]
                  rw [if_neg (by decide), if_pos trivial, wrap_nat (by omega), if_neg (by omega), if_pos (by omega)]
                · refine Ev.step (f := fun _ => some _) (fun k => ?_) (Ev.now _)
                  simp only [isct_text.l0]
                  rw [if_neg (by omega), hlen]
                  rfl
            | cons d l =>
              obtain ⟨g1, g2, g3, g4⟩ := dc h3
              have hd := hB d (by rw [← List.take_append_drop (n + 1) b, h3]; simp)
              by_cases hdq : d = 34 ∨ d = 92
              · have e : textS (92 :: d :: l) n acc = textS l (n + 2) (acc ++ [d]) := by simp [textS, hp, hdq]
                rw [e]
                refine Ev.step (f := fun k => isct_text.j1 k b a acc (n : Int) 92 false) (fun k => ?_) ?_
                · simp only [isct_text.l0]
                  rw [if_pos (by omega), if_pos (by omega), h2, if_neg (by omega), plain_f 92 (by omega) (by omega), Option.bind_some, if_pos hp, if_pos rfl, wrap_nat (by omega), if_pos (by omega), if_pos (by omega), g2]
                  rcases hdq with rfl | rfl
                  · rw [if_pos rfl]
                  · rw [if_neg (by decide), show ((92 : Int) != 92) = false from by decide]
                · refine Ev.step (f := fun k => isct_text.l0 k b a (acc ++ [d]) ((n + 2 : Nat) : Int)) (fun k => ?_) (ih l (n + 2) (acc ++ [d]) (by simp at hm; omega) g3 (by omega) (by simp; omega))
                  simp only [isct_text.j1]
                  rw [if_neg (by decide), if_pos trivial, wrap_nat (by omega), if_pos (by omega), if_pos (by omega), if_pos (by omega), g2, wrap_nat (by omega)]
              · have e : textS (92 :: d :: l) n acc = .bad (n + 1) := by simp [textS, hp, hdq]
                rw [e]
                refine Ev.step (f := fun k => isct_text.j1 k b a acc (n : Int) 92 true) (fun k => ?_) ?_
                · simp only [isct_text.l0]
                  rw [if_pos (by omega), if_pos (by omega), h2, if_neg (by omega), plain_f 92 (by omega) (by omega), Option.bind_some, if_pos hp, if_pos rfl, wrap_nat (by omega), if_pos (by omega), if_pos (by omega), g2, if_neg (fun h => hdq (.inl h))]
                  have : (d != 92) = true := by simpa using fun h => hdq (.inr h)
                  rw [this]
                · refine Ev.step (f := fun _ => some _) (fun k => ?_) (Ev.now _)
                  simp only [isct_text.j1]
                  rw [if_pos trivial, wrap_nat (by omega)]
                  rfl
          · have e : textS (c :: l) n acc = textS l (n + 1) (acc ++ [c]) := by
              rw [textS.eq_def]
              simp [hq, hp, hs]
            rw [e]
            refine Ev.step (f := fun k => isct_text.j1 k b a acc (n : Int) c false) (fun k => ?_) ?_
            · simp only [isct_text.l0]
              rw [if_pos (by omega), if_pos (by omega), h2, if_neg hq, plain_f c hc.1 hc.2]
              simp only [Option.bind_some]
              rw [if_pos hp, if_neg hs]
            · refine Ev.step (f := fun k => isct_text.l0 k b a (acc ++ [c]) ((n + 1 : Nat) : Int)) (fun k => ?_) (ih l (n + 1) (acc ++ [c]) (by simp at hm; omega) h3 (by omega) (by simp; omega))
              simp only [isct_text.j1]
              rw [if_neg (by decide), if_neg hs, if_pos (by omega), wrap_nat (by omega)]
        · have e : textS (c :: l) n acc = .bad n := by
            rw [textS.eq_def]
            simp [hq, hp]
          rw [e]
          refine Ev.step (f := fun _ => some _) (fun k => ?_) (Ev.now _)
          simp only [isct_text.l0]
          rw [if_pos (by omega), if_pos (by omega), h2, if_neg hq, plain_f c hc.1 hc.2]
          simp only [Option.bind_some]
          rw [if_neg hp]
          rfl
end Go.Proofs.Ytnkcffmklomfhaa.IsctS
