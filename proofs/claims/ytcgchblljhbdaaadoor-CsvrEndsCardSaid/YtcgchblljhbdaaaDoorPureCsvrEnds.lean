/- Records that end with either end, and a last one that ends with the text, are the same records. -/
import Derived.Test.YtcgchblljhbdaaaDoorCx6
import Derived.Test.YtcgchblljhbdaaaDoorCx9
import Derived.Test.YtcgchblljhbdaaaDoorCsvP
namespace Go.Proofs.YtcgchblljhbdaaaDoor.Pure
open Go Go.RowKit Go.Proofs.YtcgchblljhbdaaaDoor.C Go.Proofs.YtcgchblljhbdaaaDoorW.PrintWords Go.Proofs.YtcgchblljhbdaaaDoorW.PrintMore Go.Proofs.YtcgchblljhbdaaaDoorW.PrintLast Go.Proofs.YtcgchblljhbdaaaDoor.PL Go.Proofs.YtcgchblljhbdaaaDoor.PB Go.Proofs.YtcgchblljhbdaaaDoor.CsvS Go.Proofs.YtcgchblljhbdaaaDoor.CsvP
set_option linter.unusedSimpArgs false
set_option linter.unusedVariables false
theorem awC : Ev (fun k => glebelaw9_awake.f k) true := Ev.of (fun k => glebelaw9_awake.mono k) (k := 200) (by kernel_rfl)
theorem finC : Ev (fun k => (glebelaw9_awake.f k).bind fun t => some t) true := Ev.bind (g := fun k => glebelaw9_awake.f k) awC (Ev.now _)
def two (i j : Nat) : List Int := [97 + (i : Int), 97 + (j : Int)]
def fld (i j : Nat) : List Int × List Int := (two i j, two i j)
def flds (k i : Nat) : List (List Int × List Int) := (List.range k).map (fld i)
def endT (n : Nat) (a2 : Int) (i : Nat) : List Int := if i + 1 = n ∧ Go.bits .and .i64 (a2 / 32768) 1 = 1 then [] else if Go.bits .and .i64 (shr .i64 a2 (IntKind.u64.wrap (i : Int))) 1 = 1 then [13, 10] else [10]
def rowE (n k : Nat) (a2 : Int) (i : Nat) : Row := (flds k i, endT n a2 i)
def rowsE (n k : Nat) (a2 : Int) (m : Nat) : List Row := (List.range m).map (rowE n k a2)
theorem chr (i : Nat) (h : i < 100) : (wrap64 (97 + (i : Int))) % 256 = 97 + (i : Int) := by
  rw [wrap_in (by omega) (by omega)]; omega
theorem chrs (i j : Nat) (h : i < 100) (h2 : j < 100) : ([(wrap64 (97 + (i : Int))) % 256, (wrap64 (97 + (j : Int))) % 256] : List Int) = two i j := by
  rw [chr i h, chr j h2]; rfl
theorem flds_succ (k i : Nat) : flds (k + 1) i = flds k i ++ [fld i k] := by simp [flds, List.range_succ]
theorem flds_nil (k i : Nat) : flds k i = [] ↔ k = 0 := by simp [flds]
theorem join_succ (j i : Nat) : joinC (flds (j + 1) i) = if j = 0 then two i j else joinC (flds j i) ++ 44 :: two i j := by
  rw [flds_succ, joinC_snoc]
  by_cases h : j = 0
  · rw [if_pos ((flds_nil j i).2 h), if_pos h]; rfl
  · rw [if_neg (fun z => h ((flds_nil j i).1 z)), if_neg h]; rfl
theorem two_len (i j : Nat) : (two i j).length = 2 := rfl
theorem join_len (i : Nat) : ∀ j, (joinC (flds j i)).length ≤ 3 * j := by
  intro j
  induction j with
  | zero => exact Nat.le_refl _
  | succ j ih =>
    rw [join_succ]
    split
    · rw [two_len]; omega
    · rw [List.length_append, List.length_cons, two_len]; omega
theorem end_len (n : Nat) (a2 : Int) (i : Nat) : (endT n a2 i).length ≤ 2 := by
  unfold endT
  split
  · simp
  · split <;> simp
theorem rowsE_succ (n k : Nat) (a2 : Int) (m : Nat) : textR (rowsE n k a2 (m + 1)) = textR (rowsE n k a2 m) ++ (joinC (flds k m) ++ endT n a2 m) := by
  have : rowsE n k a2 (m + 1) = rowsE n k a2 m ++ [rowE n k a2 m] := by simp [rowsE, List.range_succ]
  rw [this, textR_snoc]
  rfl
theorem text_len (n k : Nat) (hk : k ≤ 4) (a2 : Int) : ∀ m, (textR (rowsE n k a2 m)).length ≤ 14 * m := by
  intro m
  induction m with
  | zero => exact Nat.le_refl _
  | succ m ih =>
    rw [rowsE_succ, List.length_append, List.length_append]
    have := join_len m k
    have := end_len n a2 m
    omega
theorem two_B (i j : Nat) (hi : i < 8) (hj : j < 8) : ∀ x ∈ two i j, 0 ≤ x ∧ x < 256 := by
  intro x hx
  simp only [two, List.mem_cons, List.mem_nil_iff, or_false] at hx
  omega
theorem join_B (i : Nat) (hi : i < 8) : ∀ j, j ≤ 8 → ∀ x ∈ joinC (flds j i), 0 ≤ x ∧ x < 256 := by
  intro j
  induction j with
  | zero => intro _ x hx; exact absurd hx (by simp [flds, joinC])
  | succ j ih =>
    intro hj x hx
    rw [join_succ] at hx
    split at hx
    · exact two_B i j hi (by omega) x hx
    · rcases List.mem_append.1 hx with h | h
      · exact ih (by omega) x h
      · rcases List.mem_cons.1 h with h | h
        · omega
        · exact two_B i j hi (by omega) x h
theorem end_B (n : Nat) (a2 : Int) (i : Nat) : ∀ x ∈ endT n a2 i, 0 ≤ x ∧ x < 256 := by
  intro x hx
  unfold endT at hx
  split at hx
  · cases hx
  · split at hx
    · simp only [List.mem_cons, List.mem_nil_iff, or_false] at hx; omega
    · simp only [List.mem_cons, List.mem_nil_iff, or_false] at hx; omega
theorem text_B (n k : Nat) (hk : k ≤ 4) (a2 : Int) : ∀ m, m ≤ 8 → ∀ x ∈ textR (rowsE n k a2 m), 0 ≤ x ∧ x < 256 := by
  intro m
  induction m with
  | zero => intro _ x hx; exact absurd hx (by simp [rowsE, textR])
  | succ m ih =>
    intro hm x hx
    rw [rowsE_succ] at hx
    rcases List.mem_append.1 hx with h | h
    · exact ih (by omega) x h
    · rcases List.mem_append.1 h with h | h
      · exact join_B m (by omega) k (by omega) x h
      · exact end_B n a2 m x h
theorem flds_tok (k i : Nat) (hi : i < 8) (hk : k ≤ 4) : ∀ y ∈ flds k i, Tok y.1 y.2 := by
  intro y hy
  simp only [flds, List.mem_map, List.mem_range] at hy
  obtain ⟨j, hj, rfl⟩ := hy
  refine ⟨by show (two i j).length ≤ 255; rw [two_len]; omega, .inl ⟨rfl, ?_⟩⟩
  have : ∀ a : Nat, a < 8 → isPl (97 + (a : Int)) = true := by
    intro a ha
    simp [isPl]
    omega
  show (two i j).all isPl = true
  simp [two, this i hi, this j (by omega)]
theorem join_ne (k i : Nat) (h : 0 < k) : joinC (flds k i) ≠ [] := by
  obtain ⟨j, rfl⟩ : ∃ j, k = j + 1 := ⟨k - 1, by omega⟩
  rw [join_succ]
  split <;> simp [two]
theorem rows_ok (n k : Nat) (hn : 0 < n) (hn8 : n ≤ 8) (hk : 0 < k) (hk4 : k ≤ 4) (a2 : Int) : okRows (rowsE n k a2 n) := by
  obtain ⟨m, rfl⟩ : ∃ m, n = m + 1 := ⟨n - 1, by omega⟩
  have hr : ∀ i, i < m + 1 → ∀ rest, (i + 1 = m + 1 → rest = []) → okRow (rowE (m + 1) k a2 i) rest := by
    intro i hi rest hrest
    refine ⟨fun z => absurd ((flds_nil k i).1 z) (by omega), flds_tok k i (by omega) hk4, ?_, ?_⟩
    · show CsvP.End (endT (m + 1) a2 i) rest
      unfold endT
      by_cases h1 : i + 1 = m + 1 ∧ Go.bits .and .i64 (a2 / 32768) 1 = 1
      · rw [if_pos h1]; exact .inr (.inr ⟨rfl, hrest h1.1⟩)
      · rw [if_neg h1]
        split
        · exact .inr (.inl rfl)
        · exact .inl rfl
    · show joinC (flds k i) ++ _ ≠ []
      intro z
      exact join_ne k i hk (List.append_eq_nil_iff.1 z).1
  have e : rowsE (m + 1) k a2 (m + 1) = rowsE (m + 1) k a2 m ++ [rowE (m + 1) k a2 m] := by simp [rowsE, List.range_succ]
  rw [e]
  refine okRows_snoc _ (hr m (by omega) [] (fun _ => rfl)) _ ?_
  intro R hR rest
  simp only [rowsE, List.mem_map, List.mem_range] at hR
  obtain ⟨i, hi, rfl⟩ := hR
  exact hr i (by omega) rest (fun z => by omega)
theorem l3_run (k n : Nat) (hk4 : k ≤ 4) (T : List Int) (hB : ∀ x ∈ T, 0 ≤ x ∧ x < 256) (hT : T.length ≤ 200) (L : List (List S59)) (i : Nat) (hi : i < 8) (hiL : i < L.length) (hrow : (rd_L4 L (i : Int)).length = k)
    (hget : ∀ j, j < k → ∃ q : Nat, ∃ l', rd_T59 (rd_L4 L (i : Int)) (j : Int) = ⟨5, strOfNums (two i j), (q : Int)⟩ ∧ T.drop q = two i j ++ l')
    (hnext : Ev (fun q => glebelaw9_CsvrEnds.l2 q (k : Int) (strOfNums T) L (n : Int) ((i + 1 : Nat) : Int)) true) :
    ∀ (d j : Nat), j + d = k → Ev (fun q => glebelaw9_CsvrEnds.l3 q (k : Int) (strOfNums T) L (i : Int) (n : Int) (i : Int) (k : Int) (j : Int)) true := by
  have hsz := size_strOf T
  intro d
  induction d with
  | zero =>
    intro j hj
    refine Ev.step (fun q => ?_) hnext
    simp only [glebelaw9_CsvrEnds.l3]
    rw [if_neg (by omega), wrap_nat (by omega)]
  | succ d ih =>
    intro j hj
    obtain ⟨q, l', g1, g2⟩ := hget j (by omega)
    have g3 : T.drop q = (97 + (i : Int)) :: (97 + (j : Int)) :: l' := g2
    obtain ⟨k1, k2, k3, k4⟩ := dc g3
    simp only [List.length_cons] at k4
    have hx : (strOfNums T).extract q (q + 2) = strOfNums (two i j) := by
      rw [strOf_extract T hB, show q + 2 = q + (two i j).length from rfl, take_app (t := two i j) g2]
    refine Ev.step (fun k_ => ?_) (ih (j + 1) (by omega))
    simp only [glebelaw9_CsvrEnds.l3]
    rw [if_pos (by omega), if_pos (by omega), if_pos (by omega), if_pos (by omega), if_pos (by omega), g1, chrs i j (by omega) (by omega)]
    simp only
    rw [if_pos trivial, if_neg (by omega), if_pos (by omega), wrap_in (by omega) (by omega), if_pos (by omega), if_pos (by omega), Int.toNat_natCast, show ((q : Int) + 2).toNat = q + 2 by omega, hx, if_pos rfl, wrap_nat (by omega)]
theorem l2_run (k n : Nat) (hk4 : k ≤ 4) (hn8 : n ≤ 8) (T : List Int) (hB : ∀ x ∈ T, 0 ≤ x ∧ x < 256) (hT : T.length ≤ 200) (L : List (List S59)) (hL : L.length = n) (hrow : ∀ i, i < n → (rd_L4 L (i : Int)).length = k)
    (hget : ∀ i, i < n → ∀ j, j < k → ∃ q : Nat, ∃ l', rd_T59 (rd_L4 L (i : Int)) (j : Int) = ⟨5, strOfNums (two i j), (q : Int)⟩ ∧ T.drop q = two i j ++ l') :
    ∀ (d i : Nat), i + d = n → Ev (fun q => glebelaw9_CsvrEnds.l2 q (k : Int) (strOfNums T) L (n : Int) (i : Int)) true := by
  intro d
  induction d with
  | zero =>
    intro i hi
    refine Ev.step (fun q => ?_) finC
    simp only [glebelaw9_CsvrEnds.l2]
    rw [if_neg (by omega)]
  | succ d ih =>
    intro i hi
    have hr := hrow i (by omega)
    refine Ev.step (fun q => ?_) (l3_run k n hk4 T hB hT L i (by omega) (by omega) hr (hget i (by omega)) (ih (i + 1) (by omega)) k 0 (by omega))
    simp only [glebelaw9_CsvrEnds.l2]
    rw [if_pos (by omega), if_pos (by omega), if_pos (by omega), hr, if_pos rfl]
    rfl
theorem range_getD {α : Type} (f : Nat → α) (z : α) (n i : Nat) (h : i < n) : ((List.range n).map f).getD i z = f i := by
  simp [List.getD_eq_getElem?_getD, h]
theorem ends_fin (n k : Nat) (hn : 0 < n) (hn8 : n ≤ 8) (hk : 0 < k) (hk4 : k ≤ 4) (a2 : Int) : Ev (fun q => glebelaw9_CsvrEnds.l0 q (n : Int) (k : Int) a2 (strOfNums (textR (rowsE n k a2 n))) (n : Int)) true := by
  have hB := text_B n k hk4 a2 n hn8
  have hTl := text_len n k hk4 a2 n
  have hlen : (rowsAt 0 (rowsE n k a2 n)).length = n := by rw [rowsAt_len]; simp [rowsE]
  have hp := parse_rows (rowsE n k a2 n) (by omega) hB (rows_ok n k hn hn8 hk hk4 a2)
  have hsz := size_strOf (textR (rowsE n k a2 n))
  have hrg : ∀ i, i < n → ∃ p' tail, rd_L4 (rowsAt 0 (rowsE n k a2 n)) (i : Int) = toks p' (flds k i) ∧ (textR (rowsE n k a2 n)).drop p' = joinC (flds k i) ++ tail := by
    intro i hi
    have := rows_get (textR (rowsE n k a2 n)) (rowsE n k a2 n) 0 i rfl (by simp [rowsE]; exact hi)
    have e : (rowsE n k a2 n).getD i ([], []) = rowE n k a2 i := range_getD _ _ n i hi
    rw [e] at this
    exact this
  have hgo := l2_run k n hk4 hn8 (textR (rowsE n k a2 n)) hB (by omega) (rowsAt 0 (rowsE n k a2 n)) hlen
    (by
      intro i hi
      obtain ⟨p', tail, e1, e2⟩ := hrg i hi
      rw [e1, toks_len]
      simp [flds])
    (by
      intro i hi j hj
      obtain ⟨p', tail, e1, e2⟩ := hrg i hi
      obtain ⟨q, l', f1, f2⟩ := toks_get (textR (rowsE n k a2 n)) (flds k i) p' j tail e2 (by simp [flds]; exact hj)
      have e : (flds k i).getD j ([], []) = fld i j := range_getD _ _ k j hj
      rw [e] at f1 f2
      refine ⟨q, l', ?_, f2⟩
      rw [e1]
      exact f1)
    n 0 (by omega)
  refine Ev.step (f := ?qf) ?qh ?qk
  case qh =>
    intro q
    simp only [glebelaw9_CsvrEnds.l0]
    rw [if_neg (by omega), if_pos (by omega), bytesOf_strOf _ hB]
  refine Ev.bind (g := fun q => csvr_Parse.f q (textR (rowsE n k a2 n))) hp ?_
  refine Ev.congr (f := fun q => glebelaw9_CsvrEnds.j3 q (k : Int) (strOfNums (textR (rowsE n k a2 n))) (rowsAt 0 (rowsE n k a2 n)) false) (fun q => ?_) (Ev.step (fun q => ?_) hgo)
  · rw [if_neg (by simp)]
    simp only [hlen]
    rw [show ((n : Int) != (n : Int)) = false by simp]
  · simp only [glebelaw9_CsvrEnds.j3]
    rw [if_neg (by simp), hlen]
    rfl
theorem l1_run (n k i : Nat) (hi : i < 8) (hk4 : k ≤ 4) (a2 : Int) (W : List Int) (hW : W.length ≤ 200)
    (hend : Ev (fun q => glebelaw9_CsvrEnds.l1 q (n : Int) (k : Int) a2 (strOfNums (W ++ joinC (flds k i))) (i : Int) (k : Int)) true) :
    ∀ (d j : Nat), j + d = k → Ev (fun q => glebelaw9_CsvrEnds.l1 q (n : Int) (k : Int) a2 (strOfNums (W ++ joinC (flds j i))) (i : Int) (j : Int)) true := by
  intro d
  induction d with
  | zero =>
    intro j hj
    obtain rfl : j = k := by omega
    exact hend
  | succ d ih =>
    intro j hj
    have hsz := size_strOf (W ++ joinC (flds j i))
    have h2 : (strOfNums (two i j)).size = 2 := size_strOf (two i j)
    have hl := join_len i j
    rw [List.length_append] at hsz
    refine Ev.step (fun q => ?_) (ih (j + 1) (by omega))
    simp only [glebelaw9_CsvrEnds.l1]
    rw [join_succ, chrs i j (by omega) (by omega), wrap_nat (by omega), if_pos (by omega)]
    by_cases h0 : j = 0
    · subst h0
      rw [if_neg (by omega), Option.bind_some, if_pos (by omega), if_pos rfl]
      have e : strOfNums (W ++ joinC (flds 0 i)) ++ strOfNums (two i 0) = strOfNums (W ++ two i 0) := by
        rw [← strOf_app]
        have : joinC (flds 0 i) = [] := rfl
        rw [this, List.append_nil]
      rw [e]
    · rw [if_pos (by omega), if_pos (by omega), Option.bind_some, if_pos (by omega), if_neg h0]
      have e : strOfNums (W ++ joinC (flds j i)) ++ (⟨#[44]⟩ : ByteArray) ++ strOfNums (two i j) = strOfNums (W ++ (joinC (flds j i) ++ 44 :: two i j)) := by
        have e44 : (⟨#[44]⟩ : ByteArray) = strOfNums [44] := rfl
        rw [e44, ← strOf_app, ← strOf_app]
        congr 1
        simp
      rw [e]
theorem l0_run (n k : Nat) (hn : 0 < n) (hn8 : n ≤ 8) (hk : 0 < k) (hk4 : k ≤ 4) (a2 : Int) : ∀ (d i : Nat), i + d = n → Ev (fun q => glebelaw9_CsvrEnds.l0 q (n : Int) (k : Int) a2 (strOfNums (textR (rowsE n k a2 i))) (i : Int)) true := by
  intro d
  induction d with
  | zero =>
    intro i hi
    obtain rfl : i = n := by omega
    exact ends_fin i k hn hn8 hk hk4 a2
  | succ d ih =>
    intro i hi
    have hnext := ih (i + 1) (by omega)
    have hWl := text_len n k hk4 a2 i
    have hl := join_len i k
    rw [rowsE_succ] at hnext
    generalize textR (rowsE n k a2 i) = W at hWl hnext ⊢
    have hsz := size_strOf (W ++ joinC (flds k i))
    rw [List.length_append] at hsz
    have hX : ∀ e : List Int, strOfNums (W ++ (joinC (flds k i) ++ e)) = strOfNums (W ++ joinC (flds k i)) ++ strOfNums e := by
      intro e
      rw [← strOf_app]
      congr 1
      simp
    rw [hX] at hnext
    refine Ev.step (fun q => ?_) (l1_run n k i (by omega) hk4 a2 W (by omega) ?_ k 0 (by omega))
    · simp only [glebelaw9_CsvrEnds.l0]
      rw [if_pos (by omega)]
      have : joinC (flds 0 i) = [] := rfl
      rw [this, List.append_nil]
      rfl
    · generalize hY : strOfNums (W ++ joinC (flds k i)) = Y at hsz hnext ⊢
      have hj2 : ∀ c : Bool, (c = true ↔ i + 1 = n ∧ Go.bits .and .i64 (a2 / 32768) 1 = 1) → Ev (fun q => glebelaw9_CsvrEnds.j2 q (n : Int) (k : Int) a2 Y (i : Int) c) true := by
        intro c hc
        refine Ev.step (fun q => ?_) hnext
        simp only [glebelaw9_CsvrEnds.j2]
        have hu : 0 ≤ IntKind.u64.wrap (i : Int) := by rw [IntKind.wrap_u64]; omega
        unfold endT
        rw [wrap_nat (by omega)]
        cases c with
        | true =>
          rw [if_pos rfl, if_pos (hc.1 rfl)]
          have : Y ++ strOfNums [] = Y := by
            rw [← hY, ← strOf_app, List.append_nil]
          rw [this]
        | false =>
          have hne : ¬ (i + 1 = n ∧ Go.bits .and .i64 (a2 / 32768) 1 = 1) := fun z => by have := hc.2 z; cases this
          rw [if_neg (by simp), if_pos hu, if_neg hne]
          split
          · rw [if_pos (by omega)]
            rfl
          · rw [if_pos (by omega)]
            rfl
      by_cases hlast : i + 1 = n
      · refine Ev.step (fun q => ?_) (hj2 ((Go.bits .and .i64 (a2 / 32768) 1) == 1) (by simp [hlast]))
        simp only [glebelaw9_CsvrEnds.l1]
        rw [if_neg (by omega), wrap_in (by omega) (by omega), if_pos (by omega)]
      · refine Ev.step (fun q => ?_) (hj2 false (by simp [hlast]))
        simp only [glebelaw9_CsvrEnds.l1]
        rw [if_neg (by omega), wrap_in (by omega) (by omega), if_neg (by omega)]
theorem CsvrEnds : glebelaw9_CsvrEnds.Pure := by
  intro a0 a1 a2 h0 h1 h2
  apply Ev.rounds
  obtain ⟨n, hn, hn8, en⟩ : ∃ n : Nat, 0 < n ∧ n ≤ 8 ∧ wrap64 ((Go.bits .and .i64 a0 7) + 1) = (n : Int) := by
    refine ⟨(a0 % 8 + 1).toNat, by omega, by omega, ?_⟩
    rw [and7, wrap_in (by omega) (by omega)]
    omega
  obtain ⟨k, hk, hk4, ek⟩ : ∃ k : Nat, 0 < k ∧ k ≤ 4 ∧ wrap64 ((Go.bits .and .i64 a1 3) + 1) = (k : Int) := by
    refine ⟨(a1 % 4 + 1).toNat, by omega, by omega, ?_⟩
    rw [and3, wrap_in (by omega) (by omega)]
    omega
  refine Ev.congr (fun q => ?_) (l0_run n k hn hn8 hk hk4 a2 n 0 (by omega))
  unfold glebelaw9_CsvrEnds.f
  rw [en, ek]
  rfl
end Go.Proofs.YtcgchblljhbdaaaDoor.Pure
