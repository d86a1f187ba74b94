/- Records are printed: what the bytes are, as lists. -/
import Derived.Test.YtcgchblljhbdaaaDoorCx5
import Derived.Test.YtcgchblljhbdaaaDoorCx6
import Derived.Test.YtcgchblljhbdaaaDoorCsvP
namespace Go.Proofs.YtcgchblljhbdaaaDoor.CsvW
open Go Go.RowKit Go.Proofs.YtcgchblljhbdaaaDoorW.PrintWords Go.Proofs.YtcgchblljhbdaaaDoorW.PrintMore Go.Proofs.YtcgchblljhbdaaaDoor.PL Go.Proofs.YtcgchblljhbdaaaDoor.PB Go.Proofs.YtcgchblljhbdaaaDoor.C Go.Proofs.YtcgchblljhbdaaaDoor.CsvS Go.Proofs.YtcgchblljhbdaaaDoor.CsvP
set_option linter.unusedSimpArgs false
set_option linter.unusedVariables false
theorem ix_iff (c : UInt8) : ∀ l : List UInt8, 0 ≤ Lib.indexByte l c ↔ c ∈ l := by
  intro l
  induction l with
  | nil => exact ⟨fun h => by unfold Lib.indexByte at h; omega, fun h => absurd h List.not_mem_nil⟩
  | cons b l ih =>
    unfold Lib.indexByte
    by_cases h : b = c
    · subst h; simp
    · have hb : (b == c) = false := by simpa using h
      have hge := Lib.indexByte_ge l c
      rw [hb, if_neg (by simp), List.mem_cons]
      by_cases e : Lib.indexByte l c = -1
      · rw [if_pos (by simp [e])]
        constructor
        · intro z; exact absurd z (by decide)
        · intro z
          rcases z with z | z
          · exact absurd z.symm h
          · have := ih.2 z; omega
      · rw [if_neg (by simp [e])]
        constructor
        · intro z; exact .inr (ih.1 (by omega))
        · intro z; omega
theorem mem_byte (s : ByteArray) (c : Nat) (hc : c < 256) : (UInt8.ofNat c) ∈ s.data.toList ↔ (c : Int) ∈ bytesOf s := by
  unfold bytesOf
  rw [List.mem_map]
  constructor
  · intro h
    refine ⟨_, h, ?_⟩
    rw [UInt8.toNat_ofNat', Nat.mod_eq_of_lt hc]
  · rintro ⟨b, hb, e⟩
    have : b = UInt8.ofNat c := by
      have h2 : b.toNat = c := by omega
      rw [← h2]; simp
    rw [← this]; exact hb
theorem index_f (s : ByteArray) (c : Nat) (hc : c < 256) : ∃ t : Int, strings_IndexByte.f s (c : Int) = some t ∧ (t ≥ 0 ↔ (c : Int) ∈ bytesOf s) := by
  refine ⟨Lib.indexByte s.data.toList ((c : Int)).toNat.toUInt8, ?_, ?_⟩
  · unfold strings_IndexByte.f stringslite_IndexByte.f
    rw [Option.bind_some]
  · rw [← mem_byte s c hc]
    exact ix_iff _ _
def quoU : List UInt8 → List UInt8
  | [] => []
  | c :: l => if c = 34 then 34 :: 34 :: quoU l else c :: quoU l
theorem repK : ∀ (s : List UInt8) (k : Nat), s.count 34 ≤ k → Lib.replaceK [34] [34, 34] k s = quoU s := by
  intro s
  induction s with
  | nil =>
    intro k _
    cases k with
    | zero => rfl
    | succ k => simp [Lib.replaceK, Lib.index_one, Lib.indexByte, quoU]
  | cons c s ih =>
    intro k hk
    by_cases hc : c = 34
    · subst hc
      rw [List.count_cons_self] at hk
      obtain ⟨k, rfl⟩ : ∃ j, k = j + 1 := ⟨k - 1, by omega⟩
      have hi : Lib.index (34 :: s) [34] = ((0 : Nat) : Int) := by rw [Lib.index_one]; simp [Lib.indexByte]
      rw [Lib.replaceK_hit _ _ _ _ 0 hi]
      show [] ++ [34, 34] ++ Lib.replaceK [34] [34, 34] k s = _
      rw [ih k (by omega)]
      simp [quoU]
    · have hcnt : (c :: s).count 34 = s.count 34 := by rw [List.count_cons_of_ne]; exact hc
      rw [hcnt] at hk
      have ih' := ih k hk
      have hb : (c == 34) = false := by simpa using hc
      have e0 : quoU (c :: s) = c :: quoU s := by simp [quoU, hc]
      rw [e0, ← ih']
      cases k with
      | zero => rfl
      | succ k =>
        have hge := Lib.indexByte_ge s 34
        by_cases e : Lib.indexByte s 34 = -1
        · have h1 : Lib.index (c :: s) [34] = -1 := by rw [Lib.index_one]; unfold Lib.indexByte; rw [hb, if_neg (by simp), if_pos (by simp [e])]
          have h2 : Lib.index s [34] = -1 := by rw [Lib.index_one, e]
          rw [Lib.replaceK, if_pos (by simp [h1]), Lib.replaceK, if_pos (by simp [h2])]
        · obtain ⟨o, ho⟩ : ∃ o : Nat, Lib.indexByte s 34 = o := ⟨(Lib.indexByte s 34).toNat, by omega⟩
          have h1 : Lib.index (c :: s) [34] = ((o + 1 : Nat) : Int) := by rw [Lib.index_one]; unfold Lib.indexByte; rw [hb, if_neg (by simp), if_neg (by simp [e]), ho]; rfl
          have h2 : Lib.index s [34] = (o : Int) := by rw [Lib.index_one, ho]
          rw [Lib.replaceK_hit _ _ _ _ _ h1, Lib.replaceK_hit _ _ _ _ _ h2]
          rfl
theorem quo_map (l : List UInt8) : quo (l.map fun b => (b.toNat : Int)) = (quoU l).map fun b => (b.toNat : Int) := by
  induction l with
  | nil => rfl
  | cons c l ih =>
    by_cases hc : c = 34
    · subst hc
      have e : (List.map (fun b : UInt8 => (b.toNat : Int)) (34 :: l)) = 34 :: List.map (fun b : UInt8 => (b.toNat : Int)) l := rfl
      rw [e]
      simp [quo, quoU, ih]
    · have h2 : ¬ ((c.toNat : Int) = 34) := by
        intro z
        apply hc
        have : c.toNat = 34 := by omega
        exact UInt8.toNat_inj.1 this
      simp [quo, quoU, hc, h2, ih]
theorem quo_len (l : List Int) : (quo l).length ≤ 2 * l.length := by
  induction l with
  | nil => exact Nat.le_refl _
  | cons c l ih =>
    unfold quo
    split <;> simp only [List.length_cons] <;> omega
theorem replace_f (s : ByteArray) (hs : s.size ≤ 100000) : ∃ t : ByteArray, strings_ReplaceAll.f s (⟨#[34]⟩ : ByteArray) (⟨#[34, 34]⟩ : ByteArray) = some t ∧ bytesOf t = quo (bytesOf s) := by
  refine ⟨⟨(Lib.replaceAll s.data.toList [34] [34, 34]).toArray⟩, ?_, ?_⟩
  · have hc : Lib.countB s (⟨#[34]⟩ : ByteArray) ≤ s.size := by
      have := Lib.countB_mul_le (⟨#[34]⟩ : ByteArray) (by decide) s.size s (Nat.le_refl _)
      have h1 : (⟨#[34]⟩ : ByteArray).size = 1 := rfl
      rw [h1] at this
      omega
    have h2 : (⟨#[34, 34]⟩ : ByteArray).size = 2 := rfl
    unfold strings_ReplaceAll.f
    rw [if_pos (by decide), if_pos (by omega), h2, if_pos (by omega)]
  · have : Lib.replaceAll s.data.toList [34] [34, 34] = quoU s.data.toList := by
      unfold Lib.replaceAll Lib.replace
      rw [if_neg (by decide)]
      unfold Lib.replaceNum
      rw [if_pos (.inl (by decide)), Lib.count_one]
      exact repK _ _ (Nat.le_refl _)
    rw [this]
    unfold bytesOf
    rw [quo_map]
/-- Whether a field is told in quotes. -/
def need (n : Nat) (s : ByteArray) : Prop := (34 : Int) ∈ bytesOf s ∨ (44 : Int) ∈ bytesOf s ∨ (10 : Int) ∈ bytesOf s ∨ (13 : Int) ∈ bytesOf s ∨ bytesOf s = [] ∧ n = 1
instance (n : Nat) (s : ByteArray) : Decidable (need n s) := by unfold need; infer_instance
def tokT (n : Nat) (s : ByteArray) : List Int := if need n s then 34 :: (quo (bytesOf s) ++ [34]) else bytesOf s
def toksP (r : List ByteArray) : List (List Int × List Int) := r.map fun s => (tokT r.length s, bytesOf s)
def rowP (r : List ByteArray) : Row := (toksP r, [10])
theorem tok_len (n : Nat) (s : ByteArray) (M : Nat) (h : s.size ≤ M) : (tokT n s).length ≤ 2 * M + 2 := by
  have hl := len_bytes s
  have hq := quo_len (bytesOf s)
  unfold tokT
  split
  · simp only [List.length_cons, List.length_append, List.length_nil]; omega
  · omega
theorem empty_iff (s : ByteArray) : s.toList = ([] : List UInt8) ↔ bytesOf s = [] := by
  have e : (ByteArray.empty).toList = ([] : List UInt8) := by decide +kernel
  rw [← e, toList_eq]
  constructor
  · intro h; subst h; rfl
  · intro h; exact ext h
theorem j3_run (acc : List Int) (r : List ByteArray) (s : ByteArray) (rows : List (List ByteArray)) (n : Nat) (i : Int) (r2 : List ByteArray) (rl : Int) (j : Nat) (hj : j < 1000000) (hs : s.size ≤ 1000) (ha : acc.length ≤ 10000000000) (c : Bool) (hc : c = true ↔ need r.length s) {R : List Int}
    (h : Ev (fun k => csvr_Print.l1 k (acc ++ tokT r.length s) r rows (n : Int) i r2 rl ((j + 1 : Nat) : Int)) R) : Ev (fun k => csvr_Print.j3 k acc r s rows (n : Int) i r2 rl (j : Int) c) R := by
  obtain ⟨t, ht, hb⟩ := replace_f s (by omega)
  have hl := len_bytes s
  have hq := quo_len (bytesOf s)
  have htl := len_bytes t
  rw [hb] at htl
  refine Ev.step (fun k => ?_) h
  simp only [csvr_Print.j3]
  rw [wrap_nat (by omega)]
  cases c with
  | true =>
    have e : bytesOf (((⟨#[34]⟩ : ByteArray) ++ t) ++ (⟨#[34]⟩ : ByteArray)) = tokT r.length s := by
      unfold tokT
      rw [if_pos (hc.1 rfl), bytesOf_app, bytesOf_app, hb]
      rfl
    rw [if_pos rfl, ht, Option.bind_some, if_pos (by omega), if_pos (by omega), if_pos (by omega), e]
  | false =>
    have e : bytesOf s = tokT r.length s := by
      unfold tokT
      rw [if_neg (fun z => by have := hc.2 z; cases this)]
    rw [if_neg (by simp), if_pos (by omega), e]
theorem j2_run (acc : List Int) (r : List ByteArray) (s : ByteArray) (rows : List (List ByteArray)) (n : Nat) (i : Int) (r2 : List ByteArray) (rl : Int) (j : Nat) (hj : j < 1000000) (hs : s.size ≤ 1000) (ha : acc.length ≤ 10000000000) {R : List Int}
    (h : Ev (fun k => csvr_Print.l1 k (acc ++ tokT r.length s) r rows (n : Int) i r2 rl ((j + 1 : Nat) : Int)) R) : Ev (fun k => csvr_Print.j2 k acc r s rows (n : Int) i r2 rl (j : Int)) R := by
  obtain ⟨t1, f1, g1⟩ := index_f s 34 (by decide)
  obtain ⟨t2, f2, g2⟩ := index_f s 44 (by decide)
  obtain ⟨t3, f3, g3⟩ := index_f s 10 (by decide)
  obtain ⟨t4, f4, g4⟩ := index_f s 13 (by decide)
  have f1 : strings_IndexByte.f s 34 = some t1 := f1
  have f2 : strings_IndexByte.f s 44 = some t2 := f2
  have f3 : strings_IndexByte.f s 10 = some t3 := f3
  have f4 : strings_IndexByte.f s 13 = some t4 := f4
  have g1 : t1 ≥ 0 ↔ (34 : Int) ∈ bytesOf s := g1
  have g2 : t2 ≥ 0 ↔ (44 : Int) ∈ bytesOf s := g2
  have g3 : t3 ≥ 0 ↔ (10 : Int) ∈ bytesOf s := g3
  have g4 : t4 ≥ 0 ↔ (13 : Int) ∈ bytesOf s := g4
  have hh := fun (c : Bool) (hc : c = true ↔ need r.length s) => j3_run acc r s rows n i r2 rl j hj hs ha c hc h
  by_cases c1 : t1 ≥ 0
  · refine Ev.step (fun k => ?_) (hh true ⟨fun _ => .inl (g1.1 c1), fun _ => rfl⟩)
    simp only [csvr_Print.j2]
    rw [f1, Option.bind_some, if_pos c1]
  · by_cases c2 : t2 ≥ 0
    · refine Ev.step (fun k => ?_) (hh true ⟨fun _ => .inr (.inl (g2.1 c2)), fun _ => rfl⟩)
      simp only [csvr_Print.j2]
      rw [f1, Option.bind_some, if_neg c1, f2, Option.bind_some, if_pos c2]
    · by_cases c3 : t3 ≥ 0
      · refine Ev.step (fun k => ?_) (hh true ⟨fun _ => .inr (.inr (.inl (g3.1 c3))), fun _ => rfl⟩)
        simp only [csvr_Print.j2]
        rw [f1, Option.bind_some, if_neg c1, f2, Option.bind_some, if_neg c2, f3, Option.bind_some, if_pos c3]
      · by_cases c4 : t4 ≥ 0
        · refine Ev.step (fun k => ?_) (hh true ⟨fun _ => .inr (.inr (.inr (.inl (g4.1 c4)))), fun _ => rfl⟩)
          simp only [csvr_Print.j2]
          rw [f1, Option.bind_some, if_neg c1, f2, Option.bind_some, if_neg c2, f3, Option.bind_some, if_neg c3, f4, Option.bind_some, if_pos c4]
        · by_cases c5 : s.toList = ([] : List UInt8)
          · have c5' := (empty_iff s).1 c5
            refine Ev.step (fun k => ?_) (hh ((r.length : Int) == 1) ⟨fun z => .inr (.inr (.inr (.inr ⟨c5', by have := eq_of_beq z; omega⟩))), fun z => ?_⟩)
            · simp only [csvr_Print.j2]
              rw [f1, Option.bind_some, if_neg c1, f2, Option.bind_some, if_neg c2, f3, Option.bind_some, if_neg c3, f4, Option.bind_some, if_neg c4, if_pos c5]
            · rcases z with z | z | z | z | z
              · exact absurd (g1.2 z) c1
              · exact absurd (g2.2 z) c2
              · exact absurd (g3.2 z) c3
              · exact absurd (g4.2 z) c4
              · rw [z.2]; rfl
          · refine Ev.step (fun k => ?_) (hh false ⟨fun z => (by cases z), fun z => ?_⟩)
            · simp only [csvr_Print.j2]
              rw [f1, Option.bind_some, if_neg c1, f2, Option.bind_some, if_neg c2, f3, Option.bind_some, if_neg c3, f4, Option.bind_some, if_neg c4, if_neg c5]
            · exfalso
              rcases z with z | z | z | z | z
              · exact c1 (g1.2 z)
              · exact c2 (g2.2 z)
              · exact c3 (g3.2 z)
              · exact c4 (g4.2 z)
              · exact c5 ((empty_iff s).2 z.1)
theorem dropG {α : Type} {ps l : List α} {n : Nat} {x : α} (z : α) (h : ps.drop n = x :: l) : n < ps.length ∧ ps.getD n z = x ∧ ps.drop (n + 1) = l ∧ ps.length = n + 1 + l.length ∧ ps.take (n + 1) = ps.take n ++ [x] := by
  have hl := congrArg List.length h
  simp at hl
  have hn : n < ps.length := by omega
  have e := List.drop_eq_getElem_cons hn
  rw [h] at e
  injection e with e1 e2
  refine ⟨hn, ?_, e2.symm, by omega, ?_⟩
  · simp [List.getD_eq_getElem?_getD, List.getElem?_eq_getElem hn, e1]
  · rw [List.take_succ_eq_append_getElem hn, e1]
theorem dropN {α : Type} {ps : List α} {n : Nat} (h : ps.drop n = []) (hn : n ≤ ps.length) : n = ps.length := by
  have := congrArg List.length h
  simp at this
  omega
theorem pre_len (n : Nat) (r : List ByteArray) (M : Nat) (hr : ∀ s ∈ r, s.size ≤ M) : (joinC (r.map fun s => (tokT n s, bytesOf s))).length ≤ (2 * M + 3) * r.length := by
  induction r with
  | nil => exact Nat.zero_le _
  | cons s r ih =>
    have h1 := tok_len n s M (hr s (List.mem_cons_self ..))
    have ih := ih (fun x hx => hr x (List.mem_cons_of_mem _ hx))
    rw [List.length_cons, Nat.mul_succ]
    cases r with
    | nil => simp only [List.map_cons, List.map_nil, joinC]; omega
    | cons y r =>
      simp only [List.map_cons, joinC, List.length_append, List.length_cons] at ih ⊢
      omega
theorem l1_run (acc : List Int) (r : List ByteArray) (rows : List (List ByteArray)) (n : Nat) (i : Nat) (hi : i < 1000000) (hr : r.length ≤ 1000) (hs : ∀ s ∈ r, s.size ≤ 1000) (ha : acc.length ≤ 1000000000) {R : List Int}
    (hnext : Ev (fun k => csvr_Print.l0 k (acc ++ rowT (rowP r)) rows (n : Int) ((i + 1 : Nat) : Int)) R) :
    ∀ (l : List ByteArray) (j : Nat), r.drop j = l → j ≤ r.length → Ev (fun k => csvr_Print.l1 k (acc ++ joinC ((r.take j).map fun s => (tokT r.length s, bytesOf s))) r rows (n : Int) (i : Int) r (r.length : Int) (j : Int)) R := by
  intro l
  induction l with
  | nil =>
    intro j h hj
    obtain rfl := dropN h hj
    have hp := pre_len r.length r 1000 hs
    have hm : (2 * 1000 + 3) * r.length ≤ 2003 * 1000 := by omega
    refine Ev.step (fun k => ?_) hnext
    simp only [csvr_Print.l1]
    rw [List.take_length, if_neg (by omega), if_pos (by rw [List.length_append]; omega), wrap_nat (by omega)]
    have e : acc ++ rowT (rowP r) = acc ++ joinC (r.map fun s => (tokT r.length s, bytesOf s)) ++ [10] := by
      unfold rowT rowP toksP
      rw [List.append_assoc]
    rw [e]
  | cons s l ih =>
    intro j h hj
    obtain ⟨h1, h2, h3, h4, h5⟩ := dropG ByteArray.empty h
    have hsm : s.size ≤ 1000 := hs s (List.mem_of_mem_drop (i := j) (by rw [h]; exact List.mem_cons_self ..))
    have hp := pre_len r.length (r.take j) 1000 (fun x hx => hs x (List.mem_of_mem_take hx))
    rw [List.length_take] at hp
    have hm : (2 * 1000 + 3) * min j r.length ≤ 2003 * 1000 := by
      have : min j r.length ≤ 1000 := by omega
      omega
    have hi2 := ih (j + 1) h3 (by omega)
    rw [h5, List.map_append] at hi2
    have ej : joinC ((r.take j).map (fun s => (tokT r.length s, bytesOf s)) ++ [s].map fun s => (tokT r.length s, bytesOf s)) = if j = 0 then tokT r.length s else joinC ((r.take j).map fun s => (tokT r.length s, bytesOf s)) ++ 44 :: tokT r.length s := by
      show joinC (_ ++ [_]) = _
      rw [joinC_snoc]
      by_cases h0 : j = 0
      · subst h0; rfl
      · rw [if_neg h0, if_neg (by
          intro z
          have := congrArg List.length z
          rw [List.length_map, List.length_take, List.length_nil] at this
          omega)]
    rw [ej] at hi2
    have hrd : rdOf ByteArray.empty r (j : Int) = s := h2
    by_cases h0 : j = 0
    · subst h0
      rw [if_pos rfl] at hi2
      have := j2_run acc r s rows n (i : Int) r (r.length : Int) 0 (by omega) hsm (by omega) hi2
      refine Ev.step (fun k => ?_) this
      simp only [csvr_Print.l1]
      rw [if_pos (by omega), if_pos (by omega), if_pos (by omega), if_neg (by omega), hrd]
      simp [joinC]
    · rw [if_neg h0] at hi2
      have e : acc ++ (joinC ((r.take j).map fun s => (tokT r.length s, bytesOf s)) ++ 44 :: tokT r.length s) = acc ++ joinC ((r.take j).map fun s => (tokT r.length s, bytesOf s)) ++ [44] ++ tokT r.length s := by simp
      rw [e] at hi2
      have := j2_run (acc ++ joinC ((r.take j).map fun s => (tokT r.length s, bytesOf s)) ++ [44]) r s rows n (i : Int) r (r.length : Int) j (by omega) hsm (by simp only [List.length_append, List.length_cons, List.length_nil]; omega) hi2
      refine Ev.step (fun k => ?_) this
      simp only [csvr_Print.l1]
      rw [if_pos (by omega), if_pos (by omega), if_pos (by omega), if_pos (by omega), if_pos (by rw [List.length_append]; omega), hrd]
theorem row_len (r : List ByteArray) (hr : r.length ≤ 30) (hs : ∀ s ∈ r, s.size ≤ 300) : (rowT (rowP r)).length ≤ 20000 := by
  have := pre_len r.length r 300 hs
  have e : (rowT (rowP r)).length = (joinC (r.map fun s => (tokT r.length s, bytesOf s))).length + 1 := by
    unfold rowT rowP toksP
    rw [List.length_append]
    rfl
  omega
theorem l0_run (rows : List (List ByteArray)) (hn : rows.length ≤ 1000) (hr : ∀ r ∈ rows, r.length ≤ 30 ∧ ∀ s ∈ r, s.size ≤ 300) : ∀ (l : List (List ByteArray)) (i : Nat) (acc : List Int), rows.drop i = l → i ≤ rows.length → acc.length ≤ 20000 * i →
    Ev (fun k => csvr_Print.l0 k acc rows (rows.length : Int) (i : Int)) (bytesOf (strOfNums (acc ++ textR (l.map rowP)))) := by
  intro l
  induction l with
  | nil =>
    intro i acc h hi ha
    obtain rfl := dropN h hi
    have hz := size_strOf acc
    refine Ev.step (f := fun _ => some _) (fun k => ?_) (Ev.now _)
    simp only [csvr_Print.l0]
    rw [if_neg (by omega), if_pos (by omega)]
    simp [textR]
  | cons r l ih =>
    intro i acc h hi ha
    obtain ⟨h1, h2, h3, h4, h5⟩ := dropG ([] : List ByteArray) h
    obtain ⟨r1, r2⟩ := hr r (List.mem_of_mem_drop (i := i) (by rw [h]; exact List.mem_cons_self ..))
    have hl := row_len r r1 r2
    have hi2 := ih (i + 1) (acc ++ rowT (rowP r)) h3 (by omega) (by rw [List.length_append]; omega)
    have e : acc ++ rowT (rowP r) ++ textR (l.map rowP) = acc ++ textR ((r :: l).map rowP) := by simp [textR]
    rw [e] at hi2
    have hrd : rd_L5 rows (i : Int) = r := h2
    have := l1_run acc r rows rows.length i (by omega) (by omega) (fun s hs => by have := r2 s hs; omega) (by omega) hi2 r 0 rfl (Nat.zero_le _)
    refine Ev.step (fun k => ?_) this
    simp only [csvr_Print.l0]
    rw [if_pos (by omega), if_pos (by omega), if_pos (by omega), hrd]
    simp [joinC]
theorem tok_byte (n : Nat) (s : ByteArray) : ∀ x ∈ tokT n s, 0 ≤ x ∧ x < 256 := by
  have hq : ∀ l : List Int, (∀ x ∈ l, 0 ≤ x ∧ x < 256) → ∀ x ∈ quo l, 0 ≤ x ∧ x < 256 := by
    intro l
    induction l with
    | nil => intro _ x hx; cases hx
    | cons c l ih =>
      intro hl x hx
      have ih := ih (fun y hy => hl y (List.mem_cons_of_mem _ hy))
      unfold quo at hx
      split at hx
      · rcases List.mem_cons.1 hx with h | h
        · omega
        · rcases List.mem_cons.1 h with h | h
          · omega
          · exact ih x h
      · rcases List.mem_cons.1 hx with h | h
        · rw [h]; exact hl c (List.mem_cons_self ..)
        · exact ih x h
  have hb := bytesOf_byte s
  intro x hx
  unfold tokT at hx
  split at hx
  · rcases List.mem_cons.1 hx with h | h
    · omega
    · rcases List.mem_append.1 h with h | h
      · exact hq _ hb x h
      · rcases List.mem_cons.1 h with h | h
        · omega
        · cases h
  · exact hb x hx
theorem join_byte : ∀ r : List (List Int × List Int), (∀ y ∈ r, ∀ x ∈ y.1, 0 ≤ x ∧ x < 256) → ∀ x ∈ joinC r, 0 ≤ x ∧ x < 256 := by
  intro r
  induction r with
  | nil => intro _ x hx; cases hx
  | cons y r ih =>
    intro h x hx
    have ih := ih (fun z hz => h z (List.mem_cons_of_mem _ hz))
    cases r with
    | nil => exact h y (List.mem_cons_self ..) x hx
    | cons z r =>
      rcases List.mem_append.1 hx with hx | hx
      · exact h y (List.mem_cons_self ..) x hx
      · rcases List.mem_cons.1 hx with hx | hx
        · omega
        · exact ih x hx
theorem text_byte (rows : List (List ByteArray)) : ∀ x ∈ textR (rows.map rowP), 0 ≤ x ∧ x < 256 := by
  induction rows with
  | nil => intro x hx; cases hx
  | cons r rows ih =>
    intro x hx
    rcases List.mem_append.1 hx with hx | hx
    · rcases List.mem_append.1 hx with hx | hx
      · refine join_byte _ ?_ x hx
        intro y hy
        obtain ⟨s, _, rfl⟩ := List.mem_map.1 hy
        exact tok_byte _ _
      · rcases List.mem_cons.1 hx with hx | hx
        · omega
        · cases hx
    · exact ih x hx
theorem text_len (rows : List (List ByteArray)) (hr : ∀ r ∈ rows, r.length ≤ 30 ∧ ∀ s ∈ r, s.size ≤ 300) : (textR (rows.map rowP)).length ≤ 20000 * rows.length := by
  induction rows with
  | nil => exact Nat.zero_le _
  | cons r rows ih =>
    obtain ⟨r1, r2⟩ := hr r (List.mem_cons_self ..)
    have := row_len r r1 r2
    have ih := ih (fun s hs => hr s (List.mem_cons_of_mem _ hs))
    simp only [List.map_cons, textR, List.length_append, List.length_cons]
    omega
/-- Records of up to 30 fields each, of up to 300 bytes each, are printed. -/
theorem print_rows (rows : List (List ByteArray)) (hn : rows.length ≤ 1000) (hr : ∀ r ∈ rows, r.length ≤ 30 ∧ ∀ s ∈ r, s.size ≤ 300) : Ev (fun k => csvr_Print.f k rows) (textR (rows.map rowP)) := by
  have := l0_run rows hn hr rows 0 [] rfl (Nat.zero_le _) (Nat.zero_le _)
  rw [List.nil_append, bytesOf_strOf _ (text_byte rows)] at this
  exact this
end Go.Proofs.YtcgchblljhbdaaaDoor.CsvW
