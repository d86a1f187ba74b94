/- The signs of bytes, stp by stp: what the program's reader comes to. -/
import Derived.Test.YtnkcffmklomfhaaIsctS
namespace Go.Proofs.Ytnkcffmklomfhaa.IsctS
open Go Go.RowKit Go.Proofs.YtnkcffmklomfhaaW.PrintWords Go.Proofs.Ytnkcffmklomfhaa.PL Go.Proofs.Ytnkcffmklomfhaa.X
set_option linter.unusedSimpArgs false
set_option linter.unusedVariables false
inductive St where
  | err (k : Int) (n : Nat)
  | go (t : Option S33) (l : List Int) (n : Nat)
def stp (c : Int) (l : List Int) (n : Nat) : St :=
  if isB c = true then .go none l (n + 1)
  else if c = 35 then .go none (l.dropWhile notNl) (n + 1 + (l.takeWhile notNl).length)
  else if isW c = true then (if 255 < ((c :: l).takeWhile isW).length then .err 2 n else .go (some ⟨2, strOfNums ((c :: l).takeWhile isW), (n : Int)⟩) ((c :: l).dropWhile isW) (n + ((c :: l).takeWhile isW).length))
  else if c = 34 then (match textS l (n + 1) [] with
    | .bad m => .err 1 m
    | .ok t l' m => if 255 < t.length then .err 2 n else .go (some ⟨3, strOfNums t, (n : Int)⟩) l' m)
  else if isS c = true then .go (some ⟨4, strOfNums [c], (n : Int)⟩) l (n + 1)
  else .err 1 n
def toks : Nat → List Int → Nat → List S33 → List S33 × Int × Int
  | 0, _, _, acc => (acc, 0, 0)
  | _ + 1, [], _, acc => (acc, 0, 0)
  | m + 1, c :: l, n, acc => match stp c l n with
    | .err k a => ([], k, (a : Int))
    | .go t l' n' => toks m l' n' (acc ++ t.toList)
def tokens (b : List Int) : List S33 × Int × Int := toks (b.length + 1) b 0 []
theorem size_strOf (l : List Int) : (strOfNums l).size = l.length := by
  simp [strOfNums, ByteArray.size]
theorem textS_at : ∀ (m : Nat) (l : List Int) (n : Nat) (acc : List Int) (b : List Int), l.length ≤ m → b.drop n = l → n ≤ b.length → acc.length ≤ n →
    match textS l n acc with
    | .ok t l' n' => b.drop n' = l' ∧ n < n' ∧ n' ≤ b.length ∧ l'.length < l.length ∧ t.length ≤ n'
    | .bad n' => n ≤ n' ∧ n' ≤ b.length := by
  intro m
  induction m with
  | zero =>
    intro l n acc b hm h hn ha
    obtain rfl : l = [] := List.eq_nil_of_length_eq_zero (by omega)
    exact ⟨Nat.le_refl _, hn⟩
  | succ m ih =>
    intro l n acc b hm h hn ha
    cases l with
    | nil => exact ⟨Nat.le_refl _, hn⟩
    | cons c l =>
      obtain ⟨h1, h2, h3, h4⟩ := dc h
      rw [textS.eq_def]
      dsimp only
      by_cases hq : c = 34
      · rw [if_pos hq]
        exact ⟨h3, by omega, by omega, by simp, by omega⟩
      · rw [if_neg hq]
        by_cases hp : isP c = true
        · rw [if_pos hp]
          by_cases hs : c = 92
          · rw [if_pos hs]
            cases l with
            | nil => exact ⟨by omega, by simp at h4; omega⟩
            | cons d l =>
              obtain ⟨g1, g2, g3, g4⟩ := dc h3
              dsimp only
              by_cases hd : d = 34 ∨ d = 92
              · rw [if_pos hd]
                have := ih l (n + 2) (acc ++ [d]) b (by simp at hm; omega) g3 (by omega) (by simp; omega)
                revert this
                cases textS l (n + 2) (acc ++ [d]) with
                | ok t l' n' => exact fun h => ⟨h.1, by omega, h.2.2.1, by simp; omega, h.2.2.2.2⟩
                | bad n' => exact fun h => ⟨by omega, h.2⟩
              · rw [if_neg hd]
                exact ⟨by omega, by omega⟩
          · rw [if_neg hs]
            have := ih l (n + 1) (acc ++ [c]) b (by simp at hm; omega) h3 (by omega) (by simp; omega)
            revert this
            cases textS l (n + 1) (acc ++ [c]) with
            | ok t l' n' => exact fun h => ⟨h.1, by omega, h.2.2.1, by simp; omega, h.2.2.2.2⟩
            | bad n' => exact fun h => ⟨by omega, h.2⟩
        · rw [if_neg hp]
          exact ⟨Nat.le_refl _, by omega⟩
theorem step_at {b : List Int} {c : Int} {l : List Int} {n : Nat} (h : b.drop n = c :: l) :
    match stp c l n with
    | .go _ l' n' => b.drop n' = l' ∧ n < n' ∧ n' ≤ b.length ∧ l'.length ≤ l.length
    | .err k n' => n ≤ n' ∧ n' ≤ b.length ∧ (k = 1 ∨ k = 2) := by
  obtain ⟨h1, h2, h3, h4⟩ := dc h
  unfold stp
  by_cases hb : isB c = true
  · rw [if_pos hb]
    exact ⟨h3, by omega, by omega, Nat.le_refl _⟩
  · rw [if_neg hb]
    by_cases hc : c = 35
    · rw [if_pos hc]
      have ht := tw_len (p := notNl) l
      refine ⟨?_, by omega, by omega, by omega⟩
      rw [← drop_tw, ← List.drop_drop, h3]
    · rw [if_neg hc]
      by_cases hw : isW c = true
      · rw [if_pos hw]
        have ht := tw_len (p := isW) (c :: l)
        have hp : 0 < ((c :: l).takeWhile isW).length := by simp [List.takeWhile_cons, hw]
        by_cases hl : 255 < ((c :: l).takeWhile isW).length
        · rw [if_pos hl]
          exact ⟨Nat.le_refl _, by omega, .inr rfl⟩
        · rw [if_neg hl]
          refine ⟨?_, by omega, by simp at ht; omega, by simp at ht; omega⟩
          rw [← drop_tw, ← List.drop_drop, h]
      · rw [if_neg hw]
        by_cases hq : c = 34
        · rw [if_pos hq]
          have := textS_at l.length l (n + 1) [] b (Nat.le_refl _) h3 (by omega) (by simp)
          revert this
          cases textS l (n + 1) [] with
          | bad m => exact fun h => ⟨by omega, h.2, .inl rfl⟩
          | ok t l' m =>
            intro h
            dsimp only
            by_cases hl : 255 < t.length
            · rw [if_pos hl]
              exact ⟨Nat.le_refl _, by omega, .inr rfl⟩
            · rw [if_neg hl]
              exact ⟨h.1, by omega, h.2.2.1, by omega⟩
        · rw [if_neg hq]
          by_cases hs : isS c = true
          · rw [if_pos hs]
            exact ⟨h3, by omega, by omega, Nat.le_refl _⟩
          · rw [if_neg hs]
            exact ⟨Nat.le_refl _, by omega, .inl rfl⟩
/-- One sign, as the program reads it. -/
theorem one_run (b : List Int) (hb : b.length < 100000000) (hB : ∀ x ∈ b, 0 ≤ x ∧ x < 256) {c : Int} {l : List Int} {n : Nat} (h : b.drop n = c :: l) (hnb : isB c ≠ true) (hnc : c ≠ 35) :
    ∃ r : Int × ByteArray × Int × Int × Int × Int, Ev (fun k => isct_one.f k b (n : Int)) r ∧
      (match stp c l n with
       | .err k a => (k = 1 ∧ r.2.2.2.2.1 = 1 ∧ r.2.2.2.2.2 = (a : Int)) ∨ (k = 2 ∧ a = n ∧ r.2.2.2.2.1 = 0 ∧ (r.2.1.size : Int) > 255)
       | .go t l' n' => r.2.2.2.2.1 = 0 ∧ r.2.2.2.2.2 = 0 ∧ ¬ ((r.2.1.size : Int) > 255) ∧ t = some ⟨r.1, r.2.1, r.2.2.1⟩ ∧ r.2.2.2.1 = (n' : Int)) := by
  obtain ⟨h1, h2, h3, h4⟩ := dc h
  have hc := hB c (by rw [← List.take_append_drop n b, h]; simp)
  unfold stp
  rw [if_neg hnb, if_neg hnc]
  by_cases hw : isW c = true
  · rw [if_pos hw]
    have hr := words_run b (by omega) hB n (c :: l) n h (by omega) (Nat.le_refl _)
    have e : (b.take (n + ((c :: l).takeWhile isW).length)).drop n = (c :: l).takeWhile isW := by
      rw [List.drop_take, h]
      have : n + ((c :: l).takeWhile isW).length - n = ((c :: l).takeWhile isW).length := by omega
      rw [this, take_tw]
    rw [e] at hr
    refine ⟨(2, strOfNums ((c :: l).takeWhile isW), (n : Int), ((n + ((c :: l).takeWhile isW).length : Nat) : Int), 0, 0), Ev.congr (f := fun k => (isct_words.f k b (n : Int)).bind fun bt138 => (some (bt138.1, bt138.2.1, bt138.2.2.1, bt138.2.2.2.1, bt138.2.2.2.2.1, bt138.2.2.2.2.2))) (fun k => ?_) (Ev.bind (g := fun k => isct_words.f k b (n : Int)) hr (Ev.now _)), ?_⟩
    · unfold isct_one.f
      rw [if_pos (by omega), if_pos (by omega), h2, word_f c hc.1 hc.2, Option.bind_some, if_pos hw]
    · dsimp only
      by_cases hl : 255 < ((c :: l).takeWhile isW).length
      · rw [if_pos hl]
        exact .inr ⟨rfl, rfl, rfl, by rw [size_strOf]; omega⟩
      · rw [if_neg hl]
        exact ⟨rfl, rfl, by rw [size_strOf]; omega, rfl, rfl⟩
  · rw [if_neg hw]
    by_cases hq : c = 34
    · rw [if_pos hq]
      have hr := text_run b hb hB (n : Int) l.length l (n + 1) [] (Nat.le_refl _) h3 (by omega) (by simp)
      refine ⟨trOut (n : Int) (textS l (n + 1) []), Ev.congr (f := fun k => (isct_text.f k b (n : Int)).bind fun bt144 => (some (bt144.1, bt144.2.1, bt144.2.2.1, bt144.2.2.2.1, bt144.2.2.2.2.1, bt144.2.2.2.2.2))) (fun k => ?_) (Ev.bind (g := fun k => isct_text.f k b (n : Int)) (Ev.congr (fun k => ?_) hr) (Ev.now _)), ?_⟩
      · unfold isct_one.f
        rw [if_pos (by omega), if_pos (by omega), h2, word_f c hc.1 hc.2, Option.bind_some, if_neg hw, if_pos hq]
      · unfold isct_text.f
        rw [wrap_nat (by omega)]
      · cases textS l (n + 1) [] with
        | bad m => exact .inl ⟨rfl, rfl, rfl⟩
        | ok t l' m =>
          dsimp only [trOut]
          by_cases hl : 255 < t.length
          · rw [if_pos hl]
            exact .inr ⟨rfl, rfl, rfl, by rw [size_strOf]; omega⟩
          · rw [if_neg hl]
            exact ⟨rfl, rfl, by rw [size_strOf]; omega, rfl, rfl⟩
    · rw [if_neg hq]
      obtain ⟨i, hi, his⟩ := sign_f c hc.1 hc.2
      by_cases hs : isS c = true
      · rw [if_pos hs]
        have e : (b.take (n + 1)).drop n = [c] := by
          rw [List.drop_take, h]
          have : n + 1 - n = 1 := by omega
          rw [this]
          rfl
        refine ⟨(4, strOfNums [c], (n : Int), ((n + 1 : Nat) : Int), 0, 0), Ev.congr (f := fun _ => some _) (fun k => ?_) (Ev.now _), rfl, rfl, by rw [size_strOf]; simp, rfl, rfl⟩
        unfold isct_one.f
        rw [hs] at his
        rw [if_pos (by omega), if_pos (by omega), h2, word_f c hc.1 hc.2, Option.bind_some, if_neg hw, if_neg hq, hi, Option.bind_some, if_pos (of_decide_eq_true his), wrap_nat (by omega), if_pos (by omega), if_pos (by omega), Int.toNat_natCast, Int.toNat_natCast, e]
      · rw [if_neg hs]
        refine ⟨(0, ⟨#[]⟩, 0, 0, 1, (n : Int)), Ev.congr (f := fun _ => some _) (fun k => ?_) (Ev.now _), .inl ⟨rfl, rfl, rfl⟩⟩
        have hs' : isS c = false := by simpa using hs
        unfold isct_one.f
        rw [hs'] at his
        rw [if_pos (by omega), if_pos (by omega), h2, word_f c hc.1 hc.2, Option.bind_some, if_neg hw, if_neg hq, hi, Option.bind_some, if_neg (of_decide_eq_false his)]
theorem toks_run (b : List Int) (hb : b.length < 100000000) (hB : ∀ x ∈ b, 0 ≤ x ∧ x < 256) : ∀ (m : Nat) (l : List Int) (n : Nat) (acc : List S33), l.length < m → b.drop n = l → n ≤ b.length → acc.length ≤ n →
    Ev (fun k => isct_Tokens.l0 k b acc (n : Int)) (toks m l n acc) := by
  intro m
  induction m with
  | zero => intro l n acc hm; omega
  | succ m ih =>
    intro l n acc hm h hn ha
    cases l with
    | nil =>
      have := dn h hn
      refine Ev.step (f := fun _ => some _) (fun k => ?_) (Ev.now _)
      simp only [isct_Tokens.l0]
      rw [if_neg (by omega)]
      rfl
    | cons c l =>
      obtain ⟨h1, h2, h3, h4⟩ := dc h
      have hc := hB c (by rw [← List.take_append_drop n b, h]; simp)
      have hat := step_at h
      simp only [toks]
      by_cases hbl : isB c = true
      · have e : stp c l n = .go none l (n + 1) := by unfold stp; rw [if_pos hbl]
        rw [e]
        refine Ev.step (f := fun k => isct_Tokens.l0 k b acc ((n + 1 : Nat) : Int)) (fun k => ?_) ?_
        · simp only [isct_Tokens.l0]
          rw [if_pos (by omega), if_pos (by omega), h2, blank_f c hc.1 hc.2, Option.bind_some, if_pos hbl, wrap_nat (by omega)]
        · simpa using ih l (n + 1) acc (by simp at hm; omega) h3 (by omega) (by omega)
      · by_cases hcm : c = 35
        · have e : stp c l n = .go none (l.dropWhile notNl) (n + 1 + (l.takeWhile notNl).length) := by unfold stp; rw [if_neg hbl, if_pos hcm]
          rw [e] at hat ⊢
          have hr := comment_run b (by omega) (c :: l) n h (by omega)
          have e2 : n + ((c :: l).takeWhile notNl).length = n + 1 + (l.takeWhile notNl).length := by
            subst hcm
            simp [List.takeWhile_cons, notNl]
            omega
          rw [e2] at hr
          refine Ev.step (f := fun k => (isct_comment.f k b (n : Int)).bind fun t160 => (isct_Tokens.l0 k b acc t160)) (fun k => ?_) (Ev.bind (g := fun k => isct_comment.f k b (n : Int)) hr ?_)
          · simp only [isct_Tokens.l0]
            rw [if_pos (by omega), if_pos (by omega), h2, blank_f c hc.1 hc.2, Option.bind_some, if_neg hbl, if_pos hcm]
          · simpa using ih _ _ acc (by simp at hm; omega) hat.1 hat.2.2.1 (by omega)
        · obtain ⟨r, hr, hm2⟩ := one_run b hb hB h hbl hcm
          refine Ev.step (f := fun k => (isct_one.f k b (n : Int)).bind fun bt161 => (if bt161.2.2.2.2.1 = 0 then (isct_Tokens.j1 k b acc (n : Int) bt161.2.2.2.1 (decide ((bt161.2.1.size : Int) > 255)) bt161.1 bt161.2.1 bt161.2.2.1 bt161.2.2.2.2.1 bt161.2.2.2.2.2) else (isct_Tokens.j1 k b acc (n : Int) bt161.2.2.2.1 false bt161.1 bt161.2.1 bt161.2.2.1 bt161.2.2.2.2.1 bt161.2.2.2.2.2))) (fun k => ?_) (Ev.bind (g := fun k => isct_one.f k b (n : Int)) hr ?_)
          · simp only [isct_Tokens.l0]
            rw [if_pos (by omega), if_pos (by omega), h2, blank_f c hc.1 hc.2, Option.bind_some, if_neg hbl, if_neg hcm]
          · revert hm2 hat
            cases stp c l n with
            | err k a =>
              intro hat hm2
              rcases hm2 with ⟨rfl, g1, g2⟩ | ⟨rfl, rfl, g1, g2⟩
              · refine Ev.congr (f := fun k => isct_Tokens.j1 k b acc (n : Int) r.2.2.2.1 false r.1 r.2.1 r.2.2.1 r.2.2.2.2.1 r.2.2.2.2.2) (fun k => by rw [if_neg (by omega)]) (Ev.step (f := fun _ => some _) (fun k => ?_) (Ev.now _))
                simp only [isct_Tokens.j1]
                rw [if_neg (by simp), if_neg (by omega), g1, g2]
              · refine Ev.congr (f := fun k => isct_Tokens.j1 k b acc (a : Int) r.2.2.2.1 true r.1 r.2.1 r.2.2.1 r.2.2.2.2.1 r.2.2.2.2.2) (fun k => by rw [if_pos g1, decide_eq_true g2]) (Ev.step (f := fun _ => some _) (fun k => ?_) (Ev.now _))
                simp only [isct_Tokens.j1]
                rw [if_pos trivial]
            | go t l' n' =>
              intro hat hm2
              obtain ⟨g1, g2, g3, g4, g5⟩ := hm2
              subst g4
              refine Ev.congr (f := fun k => isct_Tokens.j1 k b acc (n : Int) (n' : Int) false r.1 r.2.1 r.2.2.1 0 0) (fun k => by rw [if_pos g1, decide_eq_false g3, g1, g2, g5]) (Ev.step (f := fun k => isct_Tokens.l0 k b (acc ++ [⟨r.1, r.2.1, r.2.2.1⟩]) (n' : Int)) (fun k => ?_) ?_)
              · simp only [isct_Tokens.j1]
                rw [if_neg (by simp), if_pos trivial, if_pos (by omega)]
              · exact ih l' n' _ (by simp at hm; omega) hat.1 hat.2.2.1 (by simp; omega)
theorem Tokens_run (b : List Int) (hb : b.length ≤ 1000000) (hB : ∀ x ∈ b, 0 ≤ x ∧ x < 256) : Ev (fun k => isct_Tokens.f k b) (tokens b) := by
  refine Ev.congr (f := fun k => isct_Tokens.l0 k b [] ((0 : Nat) : Int)) (fun k => ?_) (toks_run b (by omega) hB _ b 0 [] (by omega) rfl (by omega) (by simp))
  unfold isct_Tokens.f scan_Long.f
  rw [if_neg (by omega), Option.bind_some]
  rfl
end Go.Proofs.Ytnkcffmklomfhaa.IsctS
