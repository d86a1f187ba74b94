/- However long a word or a text is, with escapes or none, with something wrong in it or nothing, it is told as it should be. -/
import Derived.Test.YtnkcffmklomfhaaXx7
import Derived.Test.YtnkcffmklomfhaaIsctT
namespace Go.Proofs.Ytnkcffmklomfhaa.Pure
open Go Go.RowKit Go.Proofs.Ytnkcffmklomfhaa.X Go.Proofs.YtnkcffmklomfhaaW.PrintWords Go.Proofs.YtnkcffmklomfhaaW.PrintLast Go.Proofs.Ytnkcffmklomfhaa.PL Go.Proofs.Ytnkcffmklomfhaa.IsctS
set_option linter.unusedSimpArgs false
set_option linter.unusedVariables false
theorem aw : Ev (fun k => glebelaw8_awake.f k) true := Ev.of (fun k => glebelaw8_awake.mono k) (k := 100) (by kernel_rfl)
theorem bytesOf_app (a b : ByteArray) : bytesOf (a ++ b) = bytesOf a ++ bytesOf b := by
  simp [bytesOf]
def pc (tx : Bool) (i : Nat) : List Int := if tx = true ∧ i % 8 = 3 then [92, 34] else [97]
def un (tx : Bool) (i : Nat) : Int := if tx = true ∧ i % 8 = 3 then 34 else 97
def sL (tx : Bool) (n : Nat) : List Int := (List.range n).flatMap (pc tx)
theorem sL_succ (tx : Bool) (n : Nat) : sL tx (n + 1) = sL tx n ++ pc tx n := by
  simp [sL, List.range_succ]
theorem pc_len (tx : Bool) (is : List Nat) : (is.flatMap (pc tx)).length ≤ 2 * is.length := by
  induction is with
  | nil => simp
  | cons i is ih =>
    rw [List.flatMap_cons, List.length_append, List.length_cons]
    have : (pc tx i).length ≤ 2 := by unfold pc; split <;> simp
    omega
theorem sL_len (tx : Bool) (n : Nat) : (sL tx n).length ≤ 2 * n := by
  have := pc_len tx (List.range n)
  simpa [sL] using this
theorem sL_byte (tx : Bool) (n : Nat) : ∀ x ∈ sL tx n, 0 ≤ x ∧ x < 256 := by
  intro x hx
  simp only [sL, List.mem_flatMap] at hx
  obtain ⟨i, _, hi⟩ := hx
  unfold pc at hi
  split at hi <;> simp at hi <;> omega
theorem sL_false (n : Nat) : sL false n = List.replicate n 97 := by
  induction n with
  | zero => rfl
  | succ n ih => rw [sL_succ, ih, List.replicate_succ']; simp [pc]
theorem text_pc (tx : Bool) (rest : List Int) : ∀ (is : List Nat) (m : Nat) (acc : List Int),
    textS (is.flatMap (pc tx) ++ rest) m acc = textS rest (m + (is.flatMap (pc tx)).length) (acc ++ is.map (un tx)) := by
  intro is
  induction is with
  | nil => intro m acc; simp
  | cons i is ih =>
    intro m acc
    by_cases h : tx = true ∧ i % 8 = 3
    · have e1 : (i :: is).flatMap (pc tx) = 92 :: 34 :: is.flatMap (pc tx) := by simp [pc, h]
      have e2 : un tx i = 34 := by simp [un, h]
      rw [e1, List.map_cons, e2]
      have e3 : textS (92 :: 34 :: is.flatMap (pc tx) ++ rest) m acc = textS (is.flatMap (pc tx) ++ rest) (m + 2) (acc ++ [34]) := by
        show textS (92 :: 34 :: (is.flatMap (pc tx) ++ rest)) m acc = _
        rw [textS.eq_def]
        simp [isP]
      rw [e3, ih]
      congr 1
      · simp; omega
      · simp
    · have e1 : (i :: is).flatMap (pc tx) = 97 :: is.flatMap (pc tx) := by simp [pc, h]
      have e2 : un tx i = 97 := by simp [un, h]
      rw [e1, List.map_cons, e2]
      have e3 : textS (97 :: is.flatMap (pc tx) ++ rest) m acc = textS (is.flatMap (pc tx) ++ rest) (m + 1) (acc ++ [97]) := by
        show textS (97 :: (is.flatMap (pc tx) ++ rest)) m acc = _
        rw [textS.eq_def]
        simp [isP]
      rw [e3, ih]
      congr 1
      · simp; omega
      · simp
theorem text_sL (tx : Bool) (rest : List Int) (n m : Nat) : textS (sL tx n ++ rest) m [] = textS rest (m + (sL tx n).length) ((List.range n).map (un tx)) := by
  have := text_pc tx rest (List.range n) m []
  simpa [sL] using this
/-- 'x ' and what stands behind it. -/
theorem toks_x (m : Nat) (l : List Int) (hm : 2 ≤ m) : toks m (120 :: 32 :: l) 0 [] = toks (m - 2) l 2 [⟨2, strOfNums [120], 0⟩] := by
  obtain ⟨m, rfl⟩ : ∃ q, m = q + 2 := ⟨m - 2, by omega⟩
  have e1 : stp 120 (32 :: l) 0 = .go (some ⟨2, strOfNums [120], 0⟩) (32 :: l) 1 := by
    simp [stp, isB, isW, List.takeWhile_cons, List.dropWhile_cons]
  have e2 : stp 32 l 1 = .go none l 2 := by simp [stp, isB]
  simp [toks, e1, e2]
theorem tok_bad (tx : Bool) (n : Nat) : tokens (120 :: 32 :: 34 :: (sL tx n ++ [9])) = ([], 1, ((3 + (sL tx n).length : Nat) : Int)) := by
  unfold tokens
  rw [toks_x _ _ (by simp)]
  have e : stp 34 (sL tx n ++ [9]) 2 = .err 1 (3 + (sL tx n).length) := by
    have ht : textS (sL tx n ++ [9]) 3 [] = .bad (3 + (sL tx n).length) := by
      rw [text_sL, textS.eq_def]
      simp [isP]
    unfold stp
    rw [if_neg (by decide), if_neg (by decide), if_neg (by decide), if_pos rfl, ht]
  simp [toks, e]
theorem tok_text (tx : Bool) (n : Nat) : tokens (120 :: 32 :: 34 :: (sL tx n ++ [34])) = if 255 < n then ([], 2, 2) else ([⟨2, strOfNums [120], 0⟩, ⟨3, strOfNums ((List.range n).map (un tx)), 2⟩], 0, 0) := by
  unfold tokens
  rw [toks_x _ _ (by simp)]
  have ht : textS (sL tx n ++ [34]) 3 [] = .ok ((List.range n).map (un tx)) [] (3 + (sL tx n).length + 1) := by
    rw [text_sL, textS.eq_def]
    simp
  have e : stp 34 (sL tx n ++ [34]) 2 = if 255 < n then .err 2 2 else .go (some ⟨3, strOfNums ((List.range n).map (un tx)), 2⟩) [] (3 + (sL tx n).length + 1) := by
    unfold stp
    rw [if_neg (by decide), if_neg (by decide), if_neg (by decide), if_pos rfl, ht]
    simp
  by_cases h : 255 < n
  · rw [if_pos h] at e ⊢
    simp [toks, e]
  · rw [if_neg h] at e ⊢
    simp [toks, e]
theorem tw_rep (n : Nat) : (List.replicate n (97 : Int)).takeWhile isW = List.replicate n 97 ∧ (List.replicate n (97 : Int)).dropWhile isW = [] := by
  induction n with
  | zero => exact ⟨rfl, rfl⟩
  | succ n ih =>
    have h : isW 97 = true := by decide
    rw [List.replicate_succ, List.takeWhile_cons, List.dropWhile_cons, if_pos h, if_pos h, ih.1, ih.2]
    exact ⟨rfl, rfl⟩
theorem tok_word (n : Nat) : tokens (120 :: 32 :: sL false n) = if n = 0 then ([⟨2, strOfNums [120], 0⟩], 0, 0) else if 255 < n then ([], 2, 2) else ([⟨2, strOfNums [120], 0⟩, ⟨2, strOfNums (List.replicate n 97), 2⟩], 0, 0) := by
  unfold tokens
  rw [toks_x _ _ (by simp), sL_false]
  cases n with
  | zero => rfl
  | succ n =>
    rw [if_neg (by omega), List.replicate_succ]
    have h1 := (tw_rep (n + 1)).1
    have h2 := (tw_rep (n + 1)).2
    rw [List.replicate_succ] at h1 h2
    have e : stp 97 (List.replicate n 97) 2 = if 255 < n + 1 then .err 2 2 else .go (some ⟨2, strOfNums (97 :: List.replicate n 97), 2⟩) [] (2 + (n + 1)) := by
      unfold stp
      rw [if_neg (by decide), if_neg (by decide), if_pos (by decide), h1, h2]
      simp
    by_cases h : 255 < n + 1
    · rw [if_pos h] at e ⊢
      simp [toks, e]
    · rw [if_neg h] at e ⊢
      simp [toks, e]
theorem long_loop (N : Int) (n : Nat) (hN : N = (n : Int)) (hn : n < 512) (tx wr : Bool) (r : Bool) : ∀ (d i : Nat) (s : ByteArray), i + d = n → bytesOf s = sL tx i →
    (∀ s', bytesOf s' = sL tx n → Ev (fun k => glebelaw8_IsctLong.l0 k N tx wr s' (n : Int)) r) → Ev (fun k => glebelaw8_IsctLong.l0 k N tx wr s (i : Int)) r := by
  intro d
  induction d with
  | zero =>
    intro i s hi hs hr
    obtain rfl : i = n := by omega
    exact hr s hs
  | succ d ih =>
    intro i s hi hs hr
    have hsz : s.size = (sL tx i).length := by rw [← hs, bytesOf_length]
    have hl := sL_len tx i
    have e7 : Go.bits .and .i64 (i : Int) 7 = ((i % 8 : Nat) : Int) := by rw [and7]; omega
    cases tx with
    | true =>
      by_cases h3 : i % 8 = 3
      · refine Ev.step (f := fun k => glebelaw8_IsctLong.l0 k N true wr (s ++ (⟨#[92, 34]⟩ : ByteArray)) ((i + 1 : Nat) : Int)) (fun k => ?_) (ih (i + 1) _ (by omega) (by rw [bytesOf_app, hs, sL_succ]; simp [pc, h3, bytesOf]) hr)
        simp only [glebelaw8_IsctLong.l0]
        rw [if_pos (by omega), if_pos trivial, e7, if_pos (by omega), if_pos (by omega), wrap_nat (by omega)]
      · refine Ev.step (f := fun k => glebelaw8_IsctLong.l0 k N true wr (s ++ (⟨#[97]⟩ : ByteArray)) ((i + 1 : Nat) : Int)) (fun k => ?_) (ih (i + 1) _ (by omega) (by rw [bytesOf_app, hs, sL_succ]; simp [pc, h3, bytesOf]) hr)
        simp only [glebelaw8_IsctLong.l0]
        rw [if_pos (by omega), if_pos trivial, e7, if_neg (by omega), if_pos (by omega), wrap_nat (by omega)]
    | false =>
      refine Ev.step (f := fun k => glebelaw8_IsctLong.l0 k N false wr (s ++ (⟨#[97]⟩ : ByteArray)) ((i + 1 : Nat) : Int)) (fun k => ?_) (ih (i + 1) _ (by omega) (by rw [bytesOf_app, hs, sL_succ]; simp [pc, bytesOf]) hr)
      simp only [glebelaw8_IsctLong.l0]
      rw [if_pos (by omega), if_neg (by simp), if_pos (by omega), wrap_nat (by omega)]
def tl (k : Nat) (x0 : Int) (x1 : Bool) (bt258 : List S33 × Int × Int) : Option Bool := (if x0 > 255 then (if (bt258.2.1 == 2 && (bt258.2.2 == 2)) = true then (if (bt258.1.length : Int) = 0 then ((glebelaw8_awake.f k).bind fun t264 => (some t264)) else (none)) else (none)) else (if x1 = true then (if (bt258.2.1 == 0 && (bt258.2.2 == 0)) = true then (if (bt258.1.length : Int) = 2 then (if 1 < (bt258.1.length : Int) then (if (((rd_T33 bt258.1 1).f1).size : Int) = x0 then ((glebelaw8_awake.f k).bind fun t266 => (some t266)) else (none)) else (none)) else (none)) else (none)) else (if x0 = 0 then (if (bt258.2.1 == 0 && (bt258.2.2 == 0)) = true then (if (bt258.1.length : Int) = 1 then ((glebelaw8_awake.f k).bind fun t267 => (some t267)) else (none)) else (none)) else (if (bt258.2.1 == 0 && (bt258.2.2 == 0)) = true then (if (bt258.1.length : Int) = 2 then (if 1 < (bt258.1.length : Int) then (if (((rd_T33 bt258.1 1).f1).size : Int) = x0 then ((glebelaw8_awake.f k).bind fun t269 => (some t269)) else (none)) else (none)) else (none)) else (none)))))
theorem IsctLong : glebelaw8_IsctLong.Pure := by
  intro a0 tx wr h
  apply Ev.rounds
  have hm : Go.bits .and .i64 a0 511 = ((a0 % 512).toNat : Int) := by rw [and511]; omega
  unfold glebelaw8_IsctLong.f
  rw [hm]
  have hn : (a0 % 512).toNat < 512 := by omega
  generalize (a0 % 512).toNat = n at hn
  refine long_loop (n : Int) n rfl hn tx wr true n 0 _ (by omega) rfl (fun s hs => ?_)
  have hsz : s.size = (sL tx n).length := by rw [← hs, bytesOf_length]
  have hl := sL_len tx n
  have hB := sL_byte tx n
  have hbad : Ev (fun k => isct_Tokens.f k (bytesOf (((⟨#[120, 32, 34]⟩ : ByteArray) ++ s) ++ (⟨#[9]⟩ : ByteArray)))) ([], 1, ((3 + (sL tx n).length : Nat) : Int)) := by
    have e : bytesOf (((⟨#[120, 32, 34]⟩ : ByteArray) ++ s) ++ (⟨#[9]⟩ : ByteArray)) = 120 :: 32 :: 34 :: (sL tx n ++ [9]) := by
      rw [bytesOf_app, bytesOf_app, hs]
      simp [bytesOf]
    rw [e, ← tok_bad]
    refine Tokens_run _ (by simp; omega) (fun x hx => ?_)
    simp at hx
    rcases hx with rfl | rfl | rfl | hx | rfl
    · omega
    · omega
    · omega
    · exact hB x hx
    · omega
  have hend : ∀ x9 : ByteArray, x9.size ≤ 9223372036854775807 → bytesOf x9 = (if tx = true then 120 :: 32 :: 34 :: (sL tx n ++ [34]) else 120 :: 32 :: sL tx n) → Ev (fun k => glebelaw8_IsctLong.j1 k (n : Int) tx wr s x9) true := by
    intro x9 hx9 hb9
    cases wr with
    | true =>
      refine Ev.step (fun k => ?_) (Ev.bind (g := fun k => isct_Tokens.f k (bytesOf (((⟨#[120, 32, 34]⟩ : ByteArray) ++ s) ++ (⟨#[9]⟩ : ByteArray)))) (f := fun k bt248 => (if (bt248.2.1 == 1 && (bt248.2.2 == (wrap64 (((((⟨#[120, 32, 34]⟩ : ByteArray) ++ s) ++ (⟨#[9]⟩ : ByteArray)).size : Int) - 1)))) = true then ((glebelaw8_awake.f k).bind fun t254 => (some t254)) else (none))) hbad (Ev.congr (f := fun k => (glebelaw8_awake.f k).bind fun t254 => some t254) (fun k => ?_) (Ev.bind (g := fun k => glebelaw8_awake.f k) aw (Ev.now _))))
      · simp only [glebelaw8_IsctLong.j1]
        rw [if_pos trivial, if_pos (by omega), if_pos (by omega)]
      · have e : wrap64 (((((⟨#[120, 32, 34]⟩ : ByteArray) ++ s) ++ (⟨#[9]⟩ : ByteArray)).size : Int) - 1) = ((3 + (sL tx n).length : Nat) : Int) := by
          rw [ByteArray.size_append, ByteArray.size_append, hsz]
          show wrap64 (((3 + (sL tx n).length + 1 : Nat) : Int) - 1) = _
          unfold wrap64
          omega
        rw [e, if_pos (by simp)]
    | false =>
      have hfin : Ev (fun k => (glebelaw8_awake.f k).bind fun t => some t) true := Ev.bind (g := fun k => glebelaw8_awake.f k) aw (Ev.now _)
      cases tx with
      | true =>
        rw [if_pos rfl] at hb9
        have ht : Ev (fun k => isct_Tokens.f k (bytesOf x9)) (tokens (bytesOf x9)) := by
          rw [hb9]
          refine Tokens_run _ (by simp; omega) (fun x hx => ?_)
          simp at hx
          rcases hx with rfl | rfl | rfl | hx | rfl
          · omega
          · omega
          · omega
          · exact hB x hx
          · omega
        rw [hb9, tok_text] at ht
        rw [← hb9] at ht
        refine Ev.step (f := fun k => (isct_Tokens.f k (bytesOf x9)).bind (tl k (n : Int) true)) (fun k => ?_) (Ev.bind (g := fun k => isct_Tokens.f k (bytesOf x9)) ht ?_)
        · simp only [glebelaw8_IsctLong.j1]
          rw [if_neg (by simp), if_pos hx9]
          rfl
        · unfold tl
          by_cases h5 : 255 < n
          · refine Ev.congr (fun k => ?_) hfin
            rw [if_pos h5, if_pos (by omega), if_pos (by simp), if_pos (by simp)]
          · refine Ev.congr (fun k => ?_) hfin
            rw [if_neg h5, if_neg (by omega), if_pos rfl, if_pos (by simp), if_pos (by simp), if_pos (by simp), if_pos]
            simp [rd_T33, size_strOf]
      | false =>
        rw [if_neg (by simp)] at hb9
        have ht : Ev (fun k => isct_Tokens.f k (bytesOf x9)) (tokens (bytesOf x9)) := by
          rw [hb9]
          refine Tokens_run _ (by simp; omega) (fun x hx => ?_)
          simp at hx
          rcases hx with rfl | rfl | hx
          · omega
          · omega
          · exact hB x hx
        rw [hb9, tok_word] at ht
        rw [← hb9] at ht
        refine Ev.step (f := fun k => (isct_Tokens.f k (bytesOf x9)).bind (tl k (n : Int) false)) (fun k => ?_) (Ev.bind (g := fun k => isct_Tokens.f k (bytesOf x9)) ht ?_)
        · simp only [glebelaw8_IsctLong.j1]
          rw [if_neg (by simp), if_pos hx9]
          rfl
        · unfold tl
          by_cases h0 : n = 0
          · subst h0
            refine Ev.congr (fun k => ?_) hfin
            simp
          · by_cases h5 : 255 < n
            · refine Ev.congr (fun k => ?_) hfin
              rw [if_neg h0, if_pos h5, if_pos (by omega), if_pos (by simp), if_pos (by simp)]
            · refine Ev.congr (fun k => ?_) hfin
              rw [if_neg h0, if_neg h5, if_neg (by omega), if_neg (by simp), if_neg (by omega), if_pos (by simp), if_pos (by simp), if_pos (by simp), if_pos]
              simp [rd_T33, size_strOf]
  cases tx with
  | true =>
    refine Ev.step (fun k => ?_) (hend (((⟨#[120, 32, 34]⟩ : ByteArray) ++ s) ++ (⟨#[34]⟩ : ByteArray)) ?_ ?_)
    · simp only [glebelaw8_IsctLong.l0]
      rw [if_neg (by omega), if_pos (by omega), if_pos trivial, if_pos (by omega), if_pos (by omega)]
    · rw [ByteArray.size_append, ByteArray.size_append, hsz]
      show 3 + (sL true n).length + 1 ≤ _
      omega
    · rw [bytesOf_app, bytesOf_app, hs, if_pos rfl]
      simp [bytesOf]
  | false =>
    refine Ev.step (fun k => ?_) (hend ((⟨#[120, 32]⟩ : ByteArray) ++ s) ?_ ?_)
    · simp only [glebelaw8_IsctLong.l0]
      rw [if_neg (by omega), if_pos (by omega), if_neg (by simp)]
    · rw [ByteArray.size_append, hsz]
      show 2 + (sL false n).length ≤ _
      omega
    · rw [bytesOf_app, hs, if_neg (by simp)]
      simp [bytesOf]
end Go.Proofs.Ytnkcffmklomfhaa.Pure
