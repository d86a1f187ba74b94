/- A text of signs that may stand in it is quoted, and read as it was; more blanks and comments turn nothing but places. -/
import Derived.Test.YtnkcffmklomfhaaXx14
import Derived.Test.YtnkcffmklomfhaaIsctQ
import Derived.Lib.LazyBuf
namespace Go.Proofs.Ytnkcffmklomfhaa.Pure
open Go Go.RowKit Go.Proofs.Ytnkcffmklomfhaa.X Go.Proofs.YtnkcffmklomfhaaW.PrintWords Go.Proofs.YtnkcffmklomfhaaW.PrintLast Go.Proofs.Ytnkcffmklomfhaa.PL Go.Proofs.Ytnkcffmklomfhaa.IsctS
set_option linter.unusedSimpArgs false
set_option linter.unusedVariables false
theorem awB : Ev (fun k => glebelaw8_awake.f k) true := Ev.of (fun k => glebelaw8_awake.mono k) (k := 100) (by kernel_rfl)
theorem strOf_bytesOf (s : ByteArray) : strOfNums (bytesOf s) = s := by
  unfold bytesOf
  rw [Go.Lib.Lz.strOfNums_map]
theorem bytesOf_strOf (l : List Int) (h : ∀ x ∈ l, 0 ≤ x ∧ x < 256) : bytesOf (strOfNums l) = l := by
  have h1 : ∀ x ∈ l, ((x.toNat.toUInt8).toNat : Int) = x := by
    intro x hx
    have := h x hx
    rw [Nat.toUInt8, UInt8.toNat_ofNat']
    omega
  unfold bytesOf strOfNums
  simp only [List.map_map]
  conv => rhs; rw [← List.map_id l]
  apply List.map_congr_left
  intro x hx
  exact h1 x hx
theorem bytesOf_ap (a b : ByteArray) : bytesOf (a ++ b) = bytesOf a ++ bytesOf b := by simp [bytesOf]
def aP (l : List Int) : Prop := ∀ x ∈ l, isP x = true
theorem isP_byte {x : Int} (h : isP x = true) : 0 ≤ x ∧ x < 256 := by rw [isP_iff] at h; omega
theorem text_esc (rest : List Int) : ∀ (T : List Int) (m : Nat) (acc : List Int), aP T → ∃ m', textS (T.flatMap esc ++ 34 :: rest) m acc = .ok (acc ++ T) rest m' := by
  intro T
  induction T with
  | nil => intro m acc h; exact ⟨m + 1, by rw [textS.eq_def]; simp⟩
  | cons c T ih =>
    intro m acc h
    have hp : isP c = true := h c (by simp)
    have hT : aP T := fun x hx => h x (by simp [hx])
    by_cases hc : c = 34 ∨ c = 92
    · obtain ⟨m', hm⟩ := ih (m + 2) (acc ++ [c]) hT
      refine ⟨m', ?_⟩
      have e : (c :: T).flatMap esc ++ 34 :: rest = 92 :: c :: (T.flatMap esc ++ 34 :: rest) := by simp [esc, hp, hc]
      rw [e, textS.eq_def]
      have h92 : isP 92 = true := by decide
      simp only [h92, hc, if_true]
      rw [if_neg (by omega), hm]
      simp
    · obtain ⟨m', hm⟩ := ih (m + 1) (acc ++ [c]) hT
      refine ⟨m', ?_⟩
      have e : (c :: T).flatMap esc ++ 34 :: rest = c :: (T.flatMap esc ++ 34 :: rest) := by simp [esc, hp, hc]
      rw [e, textS.eq_def]
      dsimp only
      rw [if_neg (fun h => hc (.inl h)), if_pos hp, if_neg (fun h => hc (.inr h)), hm]
      simp
theorem stp_text (T rest : List Int) (n : Nat) (hT : aP T) (hl : T.length ≤ 255) : ∃ n', stp 34 (T.flatMap esc ++ 34 :: rest) n = .go (some ⟨3, strOfNums T, (n : Int)⟩) rest n' := by
  obtain ⟨n', h⟩ := text_esc rest T (n + 1) [] hT
  refine ⟨n', ?_⟩
  unfold stp
  rw [if_neg (by decide), if_neg (by decide), if_neg (by decide), if_pos rfl, h]
  simp only [List.nil_append]
  rw [if_neg (by omega)]
theorem tok_quoted (T : List Int) (hT : aP T) (hl : T.length ≤ 255) : ∃ n : Int, tokens (97 :: 32 :: (quoteS T ++ [98])) = ([⟨2, strOfNums [97], 0⟩, ⟨3, strOfNums T, 2⟩, ⟨2, strOfNums [98], n⟩], 0, 0) := by
  obtain ⟨n', h⟩ := stp_text T [98] 2 hT hl
  refine ⟨(n' : Int), ?_⟩
  have e : (97 :: 32 :: (quoteS T ++ [98])) = 97 :: 32 :: 34 :: (T.flatMap esc ++ 34 :: [98]) := by simp [quoteS]
  rw [e]
  unfold tokens
  have e1 : stp 97 (32 :: 34 :: (T.flatMap esc ++ 34 :: [98])) 0 = .go (some ⟨2, strOfNums [97], 0⟩) (32 :: 34 :: (T.flatMap esc ++ 34 :: [98])) 1 := by
    simp [stp, isB, isW, List.takeWhile_cons, List.dropWhile_cons]
  have e2 : stp 32 (34 :: (T.flatMap esc ++ 34 :: [98])) 1 = .go none (34 :: (T.flatMap esc ++ 34 :: [98])) 2 := by simp [stp, isB]
  have e3 : stp 98 [] n' = .go (some ⟨2, strOfNums [98], (n' : Int)⟩) [] (n' + 1) := by
    simp [stp, isB, isW, List.takeWhile_cons, List.dropWhile_cons]
  have hlen : (97 :: 32 :: 34 :: (T.flatMap esc ++ 34 :: [98])).length + 1 = ((T.flatMap esc).length + 1) + 5 := by simp
  rw [hlen]
  simp [toks, e1, e2, h, e3]
/-- What a sign that was read looks like. -/
def Val (t : S33) : Prop := (t.f0 = 2 ∧ bytesOf t.f1 ≠ [] ∧ (∀ x ∈ bytesOf t.f1, isW x = true) ∧ (bytesOf t.f1).length ≤ 255) ∨ (t.f0 = 3 ∧ aP (bytesOf t.f1) ∧ (bytesOf t.f1).length ≤ 255) ∨ (t.f0 = 4 ∧ ∃ c, isS c = true ∧ bytesOf t.f1 = [c])
theorem text_aP : ∀ (m : Nat) (l : List Int) (n : Nat) (acc : List Int), l.length ≤ m → aP acc → ∀ t l' n', textS l n acc = .ok t l' n' → aP t := by
  intro m
  induction m with
  | zero =>
    intro l n acc hm ha t l' n' h
    obtain rfl : l = [] := List.eq_nil_of_length_eq_zero (by omega)
    simp [textS] at h
  | succ m ih =>
    intro l n acc hm ha t l' n' h
    cases l with
    | nil => simp [textS] at h
    | cons c l =>
      rw [textS.eq_def] at h
      dsimp only at h
      by_cases hq : c = 34
      · rw [if_pos hq] at h
        injection h with h1 h2 h3
        rw [← h1]
        exact ha
      · rw [if_neg hq] at h
        by_cases hp : isP c = true
        · rw [if_pos hp] at h
          by_cases hs : c = 92
          · rw [if_pos hs] at h
            cases l with
            | nil => simp at h
            | cons d l =>
              dsimp only at h
              by_cases hd : d = 34 ∨ d = 92
              · rw [if_pos hd] at h
                refine ih l (n + 2) (acc ++ [d]) (by simp at hm; omega) (fun x hx => ?_) t l' n' h
                rcases List.mem_append.mp hx with hx | hx
                · exact ha x hx
                · rw [List.mem_singleton.mp hx, isP_iff]
                  omega
              · rw [if_neg hd] at h
                simp at h
          · rw [if_neg hs] at h
            refine ih l (n + 1) (acc ++ [c]) (by simp at hm; omega) (fun x hx => ?_) t l' n' h
            rcases List.mem_append.mp hx with hx | hx
            · exact ha x hx
            · rw [List.mem_singleton.mp hx]
              exact hp
        · rw [if_neg hp] at h
          simp at h
theorem tw_all {p : Int → Bool} (l : List Int) : ∀ x ∈ l.takeWhile p, p x = true := by
  induction l with
  | nil => simp
  | cons c l ih =>
    intro x hx
    by_cases h : p c = true
    · rw [List.takeWhile_cons, if_pos h] at hx
      rcases List.mem_cons.mp hx with rfl | hx
      · exact h
      · exact ih x hx
    · rw [List.takeWhile_cons, if_neg h] at hx
      simp at hx
theorem isW_byte {x : Int} (h : isW x = true) : 0 ≤ x ∧ x < 256 := by
  simp [isW] at h
  omega
theorem isS_byte {x : Int} (h : isS x = true) : 0 ≤ x ∧ x < 256 := by
  simp [isS] at h
  omega
theorem stp_val {c : Int} {l : List Int} {n : Nat} {t : S33} {l' : List Int} {n' : Nat} (h : stp c l n = .go (some t) l' n') : Val t := by
  unfold stp at h
  by_cases hb : isB c = true
  · rw [if_pos hb] at h
    simp at h
  · rw [if_neg hb] at h
    by_cases hc : c = 35
    · rw [if_pos hc] at h
      simp at h
    · rw [if_neg hc] at h
      by_cases hw : isW c = true
      · rw [if_pos hw] at h
        by_cases hl : 255 < ((c :: l).takeWhile isW).length
        · rw [if_pos hl] at h
          simp at h
        · rw [if_neg hl] at h
          injection h with h1 h2 h3
          injection h1 with h1
          subst h1
          have hall := tw_all (p := isW) (c :: l)
          have hb2 := bytesOf_strOf ((c :: l).takeWhile isW) (fun x hx => isW_byte (hall x hx))
          refine .inl ⟨rfl, ?_⟩
          dsimp only
          rw [hb2]
          exact ⟨by rw [List.takeWhile_cons, if_pos hw]; simp, hall, by omega⟩
      · rw [if_neg hw] at h
        by_cases hq : c = 34
        · rw [if_pos hq] at h
          have hta := text_aP l.length l (n + 1) [] (Nat.le_refl _) (by intro x hx; simp at hx)
          revert h hta
          cases textS l (n + 1) [] with
          | bad m => intro h; simp at h
          | ok tt l2 m =>
            intro h hta
            dsimp only at h
            by_cases hl : 255 < tt.length
            · rw [if_pos hl] at h
              simp at h
            · rw [if_neg hl] at h
              injection h with h1 h2 h3
              injection h1 with h1
              subst h1
              have ha := hta tt l2 m rfl
              have hb2 := bytesOf_strOf tt (fun x hx => isP_byte (ha x hx))
              refine .inr (.inl ⟨rfl, ?_⟩)
              dsimp only
              rw [hb2]
              exact ⟨ha, by omega⟩
        · rw [if_neg hq] at h
          by_cases hs : isS c = true
          · rw [if_pos hs] at h
            injection h with h1 h2 h3
            injection h1 with h1
            subst h1
            refine .inr (.inr ⟨rfl, c, hs, bytesOf_strOf [c] ?_⟩)
            intro x hx
            rw [List.mem_singleton.mp hx]
            exact isS_byte hs
          · rw [if_neg hs] at h
            simp at h
theorem toks_val : ∀ (m : Nat) (l : List Int) (n : Nat) (acc : List S33), (∀ t ∈ acc, Val t) → ∀ t ∈ (toks m l n acc).1, Val t := by
  intro m
  induction m with
  | zero => intro l n acc ha; exact ha
  | succ m ih =>
    intro l n acc ha
    cases l with
    | nil => exact ha
    | cons c l =>
      simp only [toks]
      cases hs : stp c l n with
      | err k a => intro t ht; simp at ht
      | go t l' n' =>
        refine ih l' n' _ (fun x hx => ?_)
        rcases List.mem_append.mp hx with hx | hx
        · exact ha x hx
        · cases t with
          | none => simp at hx
          | some t =>
            have : x = t := by simpa using hx
            rw [this]
            exact stp_val hs
def pre : List Int := [32, 9, 35, 32, 195, 169, 10]
def body (t : S33) : List Int := if t.f0 = 3 then quoteS (bytesOf t.f1) else bytesOf t.f1
def rend (t : S33) : List Int := pre ++ body t
theorem toks_pre (m : Nat) (X : List Int) (n : Nat) (acc : List S33) : toks (m + 4) (pre ++ X) n acc = toks m X (n + 7) acc := by
  have e1 : stp 32 (9 :: 35 :: 32 :: 195 :: 169 :: 10 :: X) n = .go none (9 :: 35 :: 32 :: 195 :: 169 :: 10 :: X) (n + 1) := by simp [stp, isB]
  have e2 : stp 9 (35 :: 32 :: 195 :: 169 :: 10 :: X) (n + 1) = .go none (35 :: 32 :: 195 :: 169 :: 10 :: X) (n + 2) := by simp [stp, isB]
  have e3 : stp 35 (32 :: 195 :: 169 :: 10 :: X) (n + 2) = .go none (10 :: X) (n + 6) := by simp [stp, isB, notNl, List.takeWhile_cons, List.dropWhile_cons]
  have e4 : stp 10 X (n + 6) = .go none X (n + 7) := by simp [stp, isB]
  simp [pre, toks, e1, e2, e3, e4]
theorem tw_app {p : Int → Bool} (w rest : List Int) (hw : ∀ x ∈ w, p x = true) (hr : rest = [] ∨ ∃ c r, rest = c :: r ∧ p c = false) : (w ++ rest).takeWhile p = w ∧ (w ++ rest).dropWhile p = rest := by
  induction w with
  | nil =>
    rcases hr with rfl | ⟨c, r, rfl, hc⟩
    · exact ⟨rfl, rfl⟩
    · simp [List.takeWhile_cons, List.dropWhile_cons, hc]
  | cons c w ih =>
    have h := ih (fun x hx => hw x (by simp [hx]))
    have hc := hw c (by simp)
    simp [List.takeWhile_cons, List.dropWhile_cons, hc, h.1, h.2]
theorem stp_body (t : S33) (ht : Val t) (rest : List Int) (hr : rest = [] ∨ ∃ c r, rest = c :: r ∧ isW c = false) (n : Nat) :
    ∃ c l n', body t ++ rest = c :: l ∧ stp c l n = .go (some ⟨t.f0, t.f1, (n : Int)⟩) rest n' := by
  rcases ht with ⟨h0, h1, h2, h3⟩ | ⟨h0, h1, h2⟩ | ⟨h0, c, h1, h2⟩
  · cases hb : bytesOf t.f1 with
    | nil => exact absurd hb h1
    | cons c w =>
      have hw : isW c = true := h2 c (by rw [hb]; simp)
      refine ⟨c, w ++ rest, n + (c :: w).length, by simp [body, h0, hb], ?_⟩
      have ha := tw_app (p := isW) (c :: w) rest (fun x hx => h2 x (by rw [hb]; exact hx)) hr
      have e1 : (c :: (w ++ rest)).takeWhile isW = c :: w := ha.1
      have e2 : (c :: (w ++ rest)).dropWhile isW = rest := ha.2
      have hnb : ¬ isB c = true := by
        intro hbl
        simp [isB] at hbl
        rcases hbl with ((rfl | rfl) | rfl) | rfl <;> simp [isW] at hw
      have hnc : c ≠ 35 := by rintro rfl; simp [isW] at hw
      unfold stp
      rw [if_neg hnb, if_neg hnc, if_pos hw, e1, e2, if_neg (by rw [hb] at h3; omega), ← hb, strOf_bytesOf, h0]
  · obtain ⟨n', h⟩ := stp_text (bytesOf t.f1) rest n h1 h2
    refine ⟨34, (bytesOf t.f1).flatMap esc ++ 34 :: rest, n', by simp [body, h0, quoteS], ?_⟩
    rw [h, strOf_bytesOf, h0]
  · refine ⟨c, rest, n + 1, by simp [body, h0, h2], ?_⟩
    have hc : c = 123 ∨ c = 125 ∨ c = 59 ∨ c = 44 := by
      simp [isS] at h1
      omega
    have e : stp c rest n = .go (some ⟨4, strOfNums [c], (n : Int)⟩) rest (n + 1) := by
      unfold stp
      rcases hc with rfl | rfl | rfl | rfl
      all_goals rw [if_neg (by decide), if_neg (by decide), if_neg (by decide), if_neg (by decide), if_pos (by decide)]
    rw [e, ← h2, strOf_bytesOf, h0]
theorem toks_rend : ∀ (ys : List S33) (m n : Nat) (acc : List S33), (∀ t ∈ ys, Val t) → 5 * ys.length < m →
    ∃ zs : List S33, toks m (ys.flatMap rend) n acc = (acc ++ zs, 0, 0) ∧ zs.map (fun t => (t.f0, t.f1)) = ys.map (fun t => (t.f0, t.f1)) := by
  intro ys
  induction ys with
  | nil =>
    intro m n acc hv hm
    obtain ⟨m, rfl⟩ : ∃ q, m = q + 1 := ⟨m - 1, by omega⟩
    exact ⟨[], by simp [toks], rfl⟩
  | cons y ys ih =>
    intro m n acc hv hm
    obtain ⟨m, rfl⟩ : ∃ q, m = q + 1 + 4 := ⟨m - 5, by simp at hm; omega⟩
    have hr : ys.flatMap rend = [] ∨ ∃ c r, ys.flatMap rend = c :: r ∧ isW c = false := by
      cases ys with
      | nil => exact .inl rfl
      | cons z zs => exact .inr ⟨32, _, rfl, by decide⟩
    obtain ⟨c, l, n', h1, h2⟩ := stp_body y (hv y (by simp)) (ys.flatMap rend) hr (n + 7)
    obtain ⟨zs, h3, h4⟩ := ih m n' (acc ++ [⟨y.f0, y.f1, ((n + 7 : Nat) : Int)⟩]) (fun t ht => hv t (by simp [ht])) (by simp at hm; omega)
    refine ⟨⟨y.f0, y.f1, ((n + 7 : Nat) : Int)⟩ :: zs, ?_, by simp [h4]⟩
    have e : (y :: ys).flatMap rend = pre ++ (body y ++ ys.flatMap rend) := by simp [rend]
    rw [e, toks_pre, h1]
    simp only [toks, h2]
    rw [show acc ++ (some (⟨y.f0, y.f1, ((n + 7 : Nat) : Int)⟩ : S33)).toList = acc ++ [⟨y.f0, y.f1, ((n + 7 : Nat) : Int)⟩] from rfl, h3]
    simp
theorem toks_at (b : List Int) : ∀ (m : Nat) (l : List Int) (n : Nat) (acc : List S33), l.length < m → b.drop n = l → n ≤ b.length →
    (toks m l n acc).2 = (0, 0) ∨ ((toks m l n acc).1 = [] ∧ (toks m l n acc).2.1 ≠ 0 ∧ 0 ≤ (toks m l n acc).2.2 ∧ (toks m l n acc).2.2 ≤ (b.length : Int)) := by
  intro m
  induction m with
  | zero => intro l n acc hm; omega
  | succ m ih =>
    intro l n acc hm h hn
    cases l with
    | nil => exact .inl rfl
    | cons c l =>
      have hat := step_at h
      simp only [toks]
      revert hat
      cases stp c l n with
      | err k a =>
        intro hat
        refine .inr ⟨rfl, ?_, ?_, ?_⟩
        · dsimp only
          rcases hat.2.2 with h | h <;> omega
        · dsimp only
          omega
        · dsimp only
          have := hat.2.1
          omega
      | go t l' n' =>
        intro hat
        exact ih l' n' _ (by simp at hm; omega) hat.1 hat.2.2.1
theorem rend_len (t : S33) (h : Val t) : (rend t).length ≤ 600 := by
  have hq : ∀ w : List Int, (w.flatMap esc).length ≤ 2 * w.length := by
    intro w
    induction w with
    | nil => simp
    | cons c w ih =>
      have := esc_len c
      rw [List.flatMap_cons, List.length_append, List.length_cons]
      omega
  have hl : (bytesOf t.f1).length ≤ 255 := by
    rcases h with ⟨_, _, _, h⟩ | ⟨_, _, h⟩ | ⟨_, c, _, h⟩
    · exact h
    · exact h
    · rw [h]; simp
  have hq2 := hq (bytesOf t.f1)
  unfold rend body pre quoteS
  split
  · simp only [List.length_append, List.length_cons, List.length_nil]
    omega
  · simp only [List.length_append, List.length_cons, List.length_nil]
    omega
theorem rends_len (ys : List S33) (h : ∀ t ∈ ys, Val t) : (ys.flatMap rend).length ≤ 600 * ys.length := by
  induction ys with
  | nil => simp
  | cons y ys ih =>
    have h1 := rend_len y (h y (by simp))
    have h2 := ih (fun t ht => h t (by simp [ht]))
    rw [List.flatMap_cons, List.length_append, List.length_cons]
    omega
theorem rend_byte (ys : List S33) : ∀ x ∈ ys.flatMap rend, 0 ≤ x ∧ x < 256 := by
  intro x hx
  rw [List.mem_flatMap] at hx
  obtain ⟨t, _, hx⟩ := hx
  unfold rend at hx
  rcases List.mem_append.mp hx with hx | hx
  · simp [pre] at hx
    omega
  · unfold body at hx
    split at hx
    · unfold quoteS at hx
      simp at hx
      rcases hx with rfl | ⟨c, hc, hx⟩ | rfl
      · omega
      · have := bytesOf_byte t.f1 c hc
        unfold esc at hx
        split at hx
        · split at hx <;> simp at hx <;> omega
        · simp at hx
      · omega
    · exact bytesOf_byte _ x hx
theorem fin : Ev (fun k => (glebelaw8_awake.f k).bind fun t => some t) true := Ev.bind (g := fun k => glebelaw8_awake.f k) awB (Ev.now _)
theorem cmp_run (ys zs : List S33) (he : zs.map (fun t => (t.f0, t.f1)) = ys.map (fun t => (t.f0, t.f1))) (hl : zs.length ≤ 1000000) : ∀ (d i : Nat), i + d = zs.length →
    Ev (fun k => glebelaw8_IsctBack.l2 k ys zs (zs.length : Int) (i : Int)) true := by
  have hlen : zs.length = ys.length := by simpa using congrArg List.length he
  intro d
  induction d with
  | zero =>
    intro i hi
    refine Ev.step (fun k => ?_) fin
    simp only [glebelaw8_IsctBack.l2]
    rw [if_neg (by omega)]
  | succ d ih =>
    intro i hi
    have hz : i < zs.length := by omega
    have hy : i < ys.length := by omega
    have e1 : rd_T33 zs (i : Int) = zs[i] := by simp [rd_T33, List.getD_eq_getElem?_getD, List.getElem?_eq_getElem hz]
    have e2 : rd_T33 ys (i : Int) = ys[i] := by simp [rd_T33, List.getD_eq_getElem?_getD, List.getElem?_eq_getElem hy]
    have e3 : (zs[i].f0, zs[i].f1) = (ys[i].f0, ys[i].f1) := by
      have := congrArg (fun l => l[i]?) he
      simpa [List.getElem?_eq_getElem hz, List.getElem?_eq_getElem hy] using this
    injection e3 with e3 e4
    refine Ev.step (f := fun k => glebelaw8_IsctBack.l2 k ys zs (zs.length : Int) ((i + 1 : Nat) : Int)) (fun k => ?_) (ih (i + 1) (by omega))
    simp only [glebelaw8_IsctBack.l2]
    rw [if_pos (by omega), if_pos (by omega), if_pos (by omega), if_pos (by omega), e1, e2, if_pos e3, e4, if_pos rfl, wrap_nat (by omega)]
theorem put_run (ys : List S33) (hv : ∀ t ∈ ys, Val t) (hl : ys.length ≤ 1300) : ∀ (d i : Nat), i + d = ys.length →
    Ev (fun k => glebelaw8_IsctBack.l1 k ys ((ys.take i).flatMap rend) (ys.length : Int) (i : Int)) true := by
  intro d
  induction d with
  | zero =>
    intro i hi
    have ei : ys.take i = ys := by rw [List.take_of_length_le (by omega)]
    rw [ei]
    have hb := rends_len ys hv
    have ht := Tokens_run (ys.flatMap rend) (by omega) (rend_byte ys)
    obtain ⟨zs, hz1, hz2⟩ := toks_rend ys ((ys.flatMap rend).length + 1) 0 [] hv (by
      have : ∀ l : List S33, 7 * l.length ≤ (l.flatMap rend).length := by
        intro l
        induction l with
        | nil => simp
        | cons y l ih =>
          rw [List.flatMap_cons, List.length_append, List.length_cons]
          have : 7 ≤ (rend y).length := by unfold rend pre; simp
          omega
      have := this ys
      omega)
    have hz1' : tokens (ys.flatMap rend) = (zs, 0, 0) := by unfold tokens; rw [hz1]; rfl
    rw [hz1'] at ht
    have hlen : zs.length = ys.length := by simpa using congrArg List.length hz2
    refine Ev.step (f := fun k => (isct_Tokens.f k (ys.flatMap rend)).bind fun bt428 => (if bt428.2.1 = 0 then (glebelaw8_IsctBack.j3 k ys bt428.1 ((bt428.1.length : Int) != (ys.length : Int))) else (glebelaw8_IsctBack.j3 k ys bt428.1 true))) (fun k => ?_) (Ev.bind (g := fun k => isct_Tokens.f k (ys.flatMap rend)) ht (Ev.congr (f := fun k => glebelaw8_IsctBack.j3 k ys zs false) (fun k => ?_) (Ev.step (f := fun k => glebelaw8_IsctBack.l2 k ys zs (zs.length : Int) ((0 : Nat) : Int)) (fun k => ?_) (cmp_run ys zs hz2 (by omega) zs.length 0 (by omega)))))
    · simp only [glebelaw8_IsctBack.l1]
      rw [if_neg (by omega)]
    · dsimp only
      rw [if_pos rfl]
      have : ((zs.length : Int) != (ys.length : Int)) = false := by rw [hlen]; simp
      rw [this]
    · simp only [glebelaw8_IsctBack.j3]
      rw [if_neg (by simp)]
      rfl
  | succ d ih =>
    intro i hi
    have hy : i < ys.length := by omega
    have e2 : rd_T33 ys (i : Int) = ys[i] := by simp [rd_T33, List.getD_eq_getElem?_getD, List.getElem?_eq_getElem hy]
    have hvi := hv ys[i] (List.getElem_mem hy)
    have et : (ys.take (i + 1)).flatMap rend = (ys.take i).flatMap rend ++ pre ++ body ys[i] := by
      rw [List.take_succ_eq_append_getElem hy, List.flatMap_append]
      simp [rend]
    have hsz := rends_len (ys.take i) (fun t ht => hv t (List.mem_of_mem_take ht))
    have htl : (ys.take i).length ≤ i := by rw [List.length_take]; omega
    have hpl : pre.length = 7 := rfl
    have hrl := rend_len ys[i] hvi
    have hbl : (body ys[i]).length ≤ 600 := by unfold rend at hrl; simp at hrl; omega
    have hnext := ih (i + 1) (by omega)
    rw [et] at hnext
    have hpre : bytesOf (⟨#[32, 9, 35, 32, 195, 169, 10]⟩ : ByteArray) = pre := by simp [bytesOf, pre]
    by_cases h3 : ys[i].f0 = 3
    · have hbody : body ys[i] = quoteS (bytesOf ys[i].f1) := by simp [body, h3]
      have hs : ys[i].f1.size ≤ 1000 := by
        rw [← bytesOf_length]
        rcases hvi with ⟨_, _, _, h⟩ | ⟨_, _, h⟩ | ⟨_, c, _, h⟩
        · omega
        · omega
        · rw [h]; simp
      have hqb : bytesOf (strOfNums (quoteS (bytesOf ys[i].f1))) = quoteS (bytesOf ys[i].f1) := by
        refine bytesOf_strOf _ (fun x hx => ?_)
        have := rend_byte [ys[i]] x (by simp [rend, hbody, hx])
        exact this
      refine Ev.step (f := fun k => (isct_Quote.f k ys[i].f1).bind fun t420 => (if ((ys.take i).flatMap rend ++ pre).length + t420.size < 140737488355328 then (glebelaw8_IsctBack.l1 k ys (((ys.take i).flatMap rend ++ pre) ++ bytesOf t420) (ys.length : Int) ((i + 1 : Nat) : Int)) else (none))) (fun k => ?_) (Ev.bind (g := fun k => isct_Quote.f k ys[i].f1) (Quote_run _ hs) (Ev.congr (fun k => ?_) hnext))
      · simp only [glebelaw8_IsctBack.l1]
        rw [if_pos (by omega), if_pos (by omega), Option.bind_some, if_pos (by omega), if_pos (by omega), e2, if_pos h3, hpre, wrap_nat (by omega)]
      · rw [if_pos (by rw [size_strOf, ← hbody, List.length_append]; omega), hqb, hbody]
    · have hbody : body ys[i] = bytesOf ys[i].f1 := by simp [body, h3]
      rw [hbody] at hnext hbl
      rw [bytesOf_length] at hbl
      refine Ev.step (fun k => ?_) hnext
      simp only [glebelaw8_IsctBack.l1]
      rw [if_pos (by omega), if_pos (by omega), Option.bind_some, if_pos (by omega), if_pos (by omega), e2, if_neg h3, hpre, if_pos (by rw [List.length_append]; omega), wrap_nat (by omega)]
theorem rest_run (l1 : List Int) : Ev (fun k => glebelaw8_IsctBack.j1 k l1 false) true := by
  obtain ⟨t, ht, htl, htB⟩ := Text_run l1
  have hr := Tokens_run t (by omega) htB
  have hat := toks_at t (t.length + 1) t 0 [] (by omega) rfl (by omega)
  have hv := toks_val (t.length + 1) t 0 [] (by simp)
  have hl := toks_len (t.length + 1) t 0 [] t rfl (by omega) (by simp)
  refine Ev.step (f := fun k => (glebelaw8_Text.f k l1).bind fun t402 => ((isct_Tokens.f k t402).bind fun bt405 => (if bt405.2.1 = 0 then (glebelaw8_IsctBack.l1 k bt405.1 ([] : List Int) (bt405.1.length : Int) 0) else (if (bt405.1.length : Int) = 0 then (if bt405.2.2 ≥ 0 then ((glebelaw8_Text.f k l1).bind fun t411 => (if bt405.2.2 ≤ (t411.length : Int) then ((glebelaw8_awake.f k).bind fun t414 => (some t414)) else (none))) else (none)) else (none))))) (fun k => ?_) (Ev.bind (g := fun k => glebelaw8_Text.f k l1) ht (Ev.bind (g := fun k => isct_Tokens.f k t) hr ?_))
  · simp only [glebelaw8_IsctBack.j1]
    rw [if_neg (by simp)]
  · change (tokens t).2 = (0, 0) ∨ _ at hat
    rcases hat with hat | ⟨h1, h2, h3, h4⟩
    · refine Ev.congr (fun k => ?_) (put_run (tokens t).1 hv (by unfold tokens; omega) (tokens t).1.length 0 (by omega))
      rw [if_pos (by rw [hat])]
      rfl
    · have h1' : (tokens t).1 = [] := h1
      have h2' : (tokens t).2.1 ≠ 0 := h2
      have h3' : 0 ≤ (tokens t).2.2 := h3
      have h4' : (tokens t).2.2 ≤ (t.length : Int) := h4
      refine Ev.congr (f := fun k => (glebelaw8_Text.f k l1).bind fun t411 => (if (tokens t).2.2 ≤ (t411.length : Int) then ((glebelaw8_awake.f k).bind fun t414 => (some t414)) else (none))) (fun k => ?_) (Ev.bind (g := fun k => glebelaw8_Text.f k l1) ht (Ev.congr (fun k => ?_) fin))
      · rw [if_neg h2', h1', if_pos (by rfl), if_pos h3']
      · rw [if_pos h4']
theorem first_run (l1 T : List Int) (s : ByteArray) (hs : bytesOf s = T) (hT : aP T) (hl : T.length ≤ 255) (x21 : List Int) (n : Int) (k0 : ∀ k, glebelaw8_IsctBack.l0 (k + 1) l1 s x21 n n = (isct_Quote.f k s).bind fun t388 => (if 2 + t388.size ≤ 9223372036854775807 then (if 2 + t388.size + 1 ≤ 9223372036854775807 then ((isct_Tokens.f k (bytesOf (((⟨#[97, 32]⟩ : ByteArray) ++ t388) ++ (⟨#[98]⟩ : ByteArray)))).bind fun bt392 => (if bt392.2.1 = 0 then (if (bt392.1.length : Int) = 3 then (if 1 < (bt392.1.length : Int) then (if ((rd_T33 bt392.1 1).f0) = 3 then (if ((rd_T33 bt392.1 1).f1).toList = s.toList then (if ((rd_T33 bt392.1 1).f2) = 2 then (if 2 < (bt392.1.length : Int) then (glebelaw8_IsctBack.j1 k l1 (((rd_T33 bt392.1 2).f1).toList != ([98] : List UInt8))) else (none)) else (glebelaw8_IsctBack.j1 k l1 true)) else (glebelaw8_IsctBack.j1 k l1 true)) else (glebelaw8_IsctBack.j1 k l1 true)) else (none)) else (glebelaw8_IsctBack.j1 k l1 true)) else (glebelaw8_IsctBack.j1 k l1 true))) else (none)) else (none))) :
    Ev (fun k => glebelaw8_IsctBack.l0 k l1 s x21 n n) true := by
  have hsz : s.size ≤ 255 := by rw [← bytesOf_length, hs]; exact hl
  obtain ⟨p, hp⟩ := tok_quoted T hT hl
  have hqB : ∀ x ∈ quoteS T, 0 ≤ x ∧ x < 256 := by
    intro x hx
    simp [quoteS] at hx
    rcases hx with rfl | ⟨c, hc, hx⟩ | rfl
    · omega
    · have := isP_byte (hT c hc)
      unfold esc at hx
      split at hx
      · split at hx <;> simp at hx <;> omega
      · simp at hx
    · omega
  have hql : (quoteS T).length ≤ 600 := by
    have hq : ∀ w : List Int, (w.flatMap esc).length ≤ 2 * w.length := by
      intro w
      induction w with
      | nil => simp
      | cons c w ih =>
        have := esc_len c
        rw [List.flatMap_cons, List.length_append, List.length_cons]
        omega
    have := hq T
    unfold quoteS
    simp only [List.length_append, List.length_cons, List.length_nil]
    omega
  have e : bytesOf (((⟨#[97, 32]⟩ : ByteArray) ++ strOfNums (quoteS T)) ++ (⟨#[98]⟩ : ByteArray)) = 97 :: 32 :: (quoteS T ++ [98]) := by
    rw [bytesOf_ap, bytesOf_ap, bytesOf_strOf _ hqB]
    simp [bytesOf]
  have ht := Tokens_run (97 :: 32 :: (quoteS T ++ [98])) (by simp only [List.length_append, List.length_cons, List.length_nil]; omega) (fun x hx => by
    simp at hx
    rcases hx with rfl | rfl | hx | rfl
    · omega
    · omega
    · exact hqB x hx
    · omega)
  rw [hp] at ht
  have hq := Quote_run s (by omega)
  rw [hs] at hq
  refine Ev.step k0 (Ev.bind (g := fun k => isct_Quote.f k s) hq ?_)
  refine Ev.congr (fun k => ?_) (Ev.bind (g := fun k => isct_Tokens.f k (97 :: 32 :: (quoteS T ++ [98]))) (f := fun k bt392 => (if bt392.2.1 = 0 then (if (bt392.1.length : Int) = 3 then (if 1 < (bt392.1.length : Int) then (if ((rd_T33 bt392.1 1).f0) = 3 then (if ((rd_T33 bt392.1 1).f1).toList = s.toList then (if ((rd_T33 bt392.1 1).f2) = 2 then (if 2 < (bt392.1.length : Int) then (glebelaw8_IsctBack.j1 k l1 (((rd_T33 bt392.1 2).f1).toList != ([98] : List UInt8))) else (none)) else (glebelaw8_IsctBack.j1 k l1 true)) else (glebelaw8_IsctBack.j1 k l1 true)) else (glebelaw8_IsctBack.j1 k l1 true)) else (none)) else (glebelaw8_IsctBack.j1 k l1 true)) else (glebelaw8_IsctBack.j1 k l1 true))) ht (Ev.congr (fun k => ?_) (rest_run l1)))
  · rw [if_pos (by rw [size_strOf]; omega), if_pos (by rw [size_strOf]; omega), e]
  · have e1 : strOfNums T = s := by rw [← hs, strOf_bytesOf]
    have e2 : ((strOfNums [98]).toList != ([98] : List UInt8)) = false := by kernel_rfl
    simp [rd_T33, e1, e2]
theorem make_run (l0 l1 : List Int) (hB : ∀ x ∈ l0, 0 ≤ x ∧ x < 256) (hl : l0.length ≤ 255) : ∀ (l : List Int) (n : Nat) (s : ByteArray), l0.drop n = l → n ≤ l0.length → aP (bytesOf s) → s.size = n →
    Ev (fun k => glebelaw8_IsctBack.l0 k l1 s l0 (l0.length : Int) (n : Int)) true := by
  intro l
  induction l with
  | nil =>
    intro n s h hn hs hsz
    have hnl := dn h hn
    rw [← hnl]
    refine first_run l1 (bytesOf s) s rfl hs (by rw [bytesOf_length]; omega) l0 (n : Int) (fun k => ?_)
    simp only [glebelaw8_IsctBack.l0]
    rw [if_neg (by omega)]
  | cons c l ih =>
    intro n s h hn hs hsz
    obtain ⟨h1, h2, h3, h4⟩ := dc h
    have hc := hB c (by rw [← List.take_append_drop n l0, h]; simp)
    have ec : (32 + (Int.tmod c 95)) % 256 = 32 + c % 95 := by rw [tmod_nn hc.1]; omega
    have eb : bytesOf (strOfNums [32 + c % 95]) = [32 + c % 95] := bytesOf_strOf _ (fun x hx => by rw [List.mem_singleton.mp hx]; omega)
    refine Ev.step (f := fun k => glebelaw8_IsctBack.l0 k l1 (s ++ strOfNums [32 + c % 95]) l0 (l0.length : Int) ((n + 1 : Nat) : Int)) (fun k => ?_) (ih (n + 1) _ h3 (by omega) ?_ (by rw [ByteArray.size_append, size_strOf, hsz]; rfl))
    · simp only [glebelaw8_IsctBack.l0]
      rw [if_pos (by omega), if_pos (by omega), if_pos (by omega), h2, ec, Option.bind_some, if_pos (by rw [size_strOf]; simp; omega), wrap_nat (by omega)]
    · rw [bytesOf_ap, eb]
      intro x hx
      rcases List.mem_append.mp hx with hx | hx
      · exact hs x hx
      · rw [List.mem_singleton.mp hx, isP_iff]
        omega
theorem IsctBack : glebelaw8_IsctBack.Pure := by
  intro l0 l1 h1 h2 h3 h4 h5 h6
  apply Ev.rounds
  by_cases hlen : (l0.length : Int) > 255
  · refine Ev.congr (fun k => ?_) fin
    unfold glebelaw8_IsctBack.f
    rw [if_pos hlen]
  · refine Ev.congr (fun k => ?_) (make_run l0 l1 (u8_of_wf h3) (by omega) l0 0 (⟨#[]⟩ : ByteArray) rfl (by omega) (by intro x hx; simp [bytesOf] at hx) rfl)
    unfold glebelaw8_IsctBack.f
    rw [if_neg hlen]
    rfl
end Go.Proofs.Ytnkcffmklomfhaa.Pure
