/- The document's printer of records. -/
import Derived.Test.YtcgchblljhbdaaaDoorCx12
import Derived.Test.YtcgchblljhbdaaaDoorCx13
import Derived.Test.YtcgchblljhbdaaaDoorCsvW
namespace Go.Proofs.YtcgchblljhbdaaaDoor.CsvX
open Go Go.RowKit Go.Proofs.YtcgchblljhbdaaaDoorW.PrintWords Go.Proofs.YtcgchblljhbdaaaDoorW.PrintMore Go.Proofs.YtcgchblljhbdaaaDoor.PL Go.Proofs.YtcgchblljhbdaaaDoor.PB Go.Proofs.YtcgchblljhbdaaaDoor.C Go.Proofs.YtcgchblljhbdaaaDoor.CsvS Go.Proofs.YtcgchblljhbdaaaDoor.CsvP Go.Proofs.YtcgchblljhbdaaaDoor.CsvW
set_option linter.unusedSimpArgs false
set_option linter.unusedVariables false
theorem l3_run (rows : List (List ByteArray)) (i j : Nat) (hj : j < 1000000) (s : ByteArray) (hs : s.size ≤ 1000) (acc : List Int) (ha : acc.length ≤ 10000000001) {R : List Int}
    (hn : Ev (fun k => gleberef7_PrintRecords.l1 k rows (acc ++ quo (bytesOf s) ++ [34]) (i : Int) ((j + 1 : Nat) : Int)) R) : ∀ (l : List Int) (n : Nat) (T : List Int), (bytesOf s).drop n = l → n ≤ (bytesOf s).length → T ++ quo l = acc ++ quo (bytesOf s) → T.length ≤ 10000000001 + 2 * n →
    Ev (fun k => gleberef7_PrintRecords.l3 k rows T (i : Int) (j : Int) s (n : Int)) R := by
  have hbl := len_bytes s
  intro l
  induction l with
  | nil =>
    intro n T h hnn hT hTl
    have := dn (b := bytesOf s) h hnn
    have e : T = acc ++ quo (bytesOf s) := by
      have : quo [] = ([] : List Int) := rfl
      rw [this, List.append_nil] at hT
      exact hT
    refine Ev.step (fun k => ?_) hn
    simp only [gleberef7_PrintRecords.l3]
    rw [if_neg (by omega), if_pos (by omega), wrap_nat (by omega), e]
  | cons c l ih =>
    intro n T h hnn hT hTl
    obtain ⟨h1, h2, h3, h4⟩ := dc h
    have hbt : bt s (n : Int) = c := by rw [bt_rd, h2]
    by_cases hc : c = 34
    · have e : T ++ [34] ++ [c] ++ quo l = acc ++ quo (bytesOf s) := by
        rw [← hT]
        simp [quo, hc]
      refine Ev.step (fun k => ?_) (ih (n + 1) (T ++ [34] ++ [c]) h3 (by omega) e (by simp only [List.length_append, List.length_cons, List.length_nil]; omega))
      simp only [gleberef7_PrintRecords.l3]
      rw [if_pos (by omega), if_pos (by omega), hbt, if_pos hc, if_pos (by omega), Option.bind_some, if_pos (by simp only [List.length_append, List.length_cons, List.length_nil]; omega), wrap_nat (by omega)]
    · have e : T ++ [c] ++ quo l = acc ++ quo (bytesOf s) := by
        rw [← hT]
        simp [quo, hc]
      refine Ev.step (fun k => ?_) (ih (n + 1) (T ++ [c]) h3 (by omega) e (by simp only [List.length_append, List.length_cons, List.length_nil]; omega))
      simp only [gleberef7_PrintRecords.l3]
      rw [if_pos (by omega), if_pos (by omega), hbt, if_neg hc, if_pos (by omega), wrap_nat (by omega)]
def spec (c : Int) : Bool := c == 34 || c == 44 || c == 10 || c == 13
theorem l2_run (rows : List (List ByteArray)) (i j : Nat) (hj : j < 1000000) (s : ByteArray) (hs : s.size ≤ 1000) (acc : List Int) (ha : acc.length ≤ 10000000000) (c0 : Bool) {R : List Int}
    (hn : Ev (fun k => gleberef7_PrintRecords.l1 k rows (acc ++ if (c0 || (bytesOf s).any spec) = true then 34 :: (quo (bytesOf s) ++ [34]) else bytesOf s) (i : Int) ((j + 1 : Nat) : Int)) R) : ∀ (l : List Int) (n : Nat) (c : Bool), (bytesOf s).drop n = l → n ≤ (bytesOf s).length → (c || l.any spec) = (c0 || (bytesOf s).any spec) →
    Ev (fun k => gleberef7_PrintRecords.l2 k rows acc (i : Int) (j : Int) s c (n : Int)) R := by
  have hbl := len_bytes s
  have hq := quo_len (bytesOf s)
  intro l
  induction l with
  | nil =>
    intro n c h hnn hc
    have := dn (b := bytesOf s) h hnn
    rw [← hc] at hn
    cases c with
    | true =>
      rw [if_pos (by simp)] at hn
      have e : acc ++ 34 :: (quo (bytesOf s) ++ [34]) = acc ++ [34] ++ quo (bytesOf s) ++ [34] := by simp
      rw [e] at hn
      refine Ev.step (fun k => ?_) (l3_run rows i j hj s hs (acc ++ [34]) (by simp only [List.length_append, List.length_cons, List.length_nil]; omega) hn _ 0 (acc ++ [34]) rfl (Nat.zero_le _) rfl (by simp only [List.length_append, List.length_cons, List.length_nil]; omega))
      simp only [gleberef7_PrintRecords.l2]
      rw [if_neg (by omega), if_pos trivial, if_pos (by omega)]
      rfl
    | false =>
      rw [if_neg (by simp)] at hn
      refine Ev.step (fun k => ?_) hn
      simp only [gleberef7_PrintRecords.l2]
      rw [if_neg (by omega), if_neg (by simp), if_pos (by omega), wrap_nat (by omega)]
  | cons d l ih =>
    intro n c h hnn hc
    obtain ⟨h1, h2, h3, h4⟩ := dc h
    have hbt : bt s (n : Int) = d := by rw [bt_rd, h2]
    cases c with
    | true =>
      refine Ev.step (fun k => ?_) (ih (n + 1) true h3 (by omega) (by rw [← hc]; simp))
      simp only [gleberef7_PrintRecords.l2]
      rw [if_pos (by omega), if_pos trivial, wrap_nat (by omega)]
    | false =>
      refine Ev.step (fun k => ?_) (ih (n + 1) (spec d) h3 (by omega) (by rw [← hc]; simp))
      simp only [gleberef7_PrintRecords.l2]
      rw [if_pos (by omega), if_neg (by simp), if_pos (by omega), hbt, wrap_nat (by omega)]
      by_cases e1 : d = 34
      · rw [if_pos e1, show spec d = true by simp [spec, e1]]
      · by_cases e2 : d = 44
        · rw [if_neg e1, if_pos e2, show spec d = true by simp [spec, e2]]
        · by_cases e3 : d = 10
          · rw [if_neg e1, if_neg e2, if_pos e3, show spec d = true by simp [spec, e3]]
          · rw [if_neg e1, if_neg e2, if_neg e3, show spec d = (d == 13) by simp [spec, e1, e2, e3]]
theorem need_iff (n : Nat) (s : ByteArray) (c0 : Bool) (h0 : c0 = true ↔ bytesOf s = [] ∧ n = 1) : (c0 || (bytesOf s).any spec) = true ↔ need n s := by
  rw [Bool.or_eq_true, h0, List.any_eq_true]
  unfold need
  constructor
  · rintro (h | ⟨c, hc, hs⟩)
    · exact .inr (.inr (.inr (.inr h)))
    · simp only [spec, Bool.or_eq_true, beq_iff_eq] at hs
      rcases hs with ((rfl | rfl) | rfl) | rfl
      · exact .inl hc
      · exact .inr (.inl hc)
      · exact .inr (.inr (.inl hc))
      · exact .inr (.inr (.inr (.inl hc)))
  · rintro (h | h | h | h | h)
    · exact .inr ⟨_, h, by decide⟩
    · exact .inr ⟨_, h, by decide⟩
    · exact .inr ⟨_, h, by decide⟩
    · exact .inr ⟨_, h, by decide⟩
    · exact .inl h
theorem j2_run (rows : List (List ByteArray)) (i j : Nat) (hi : i < rows.length) (r : List ByteArray) (hr : rd_L5 rows (i : Int) = r) (hrl : r.length ≤ 1000) (hj : j < r.length) (s : ByteArray) (hsr : rdOf ByteArray.empty r (j : Int) = s) (hs : s.size ≤ 1000) (acc : List Int) (ha : acc.length ≤ 10000000000) {R : List Int}
    (hn : Ev (fun k => gleberef7_PrintRecords.l1 k rows (acc ++ tokT r.length s) (i : Int) ((j + 1 : Nat) : Int)) R) : Ev (fun k => gleberef7_PrintRecords.j2 k rows acc (i : Int) (j : Int)) R := by
  have hgo : ∀ c0 : Bool, (c0 = true ↔ bytesOf s = [] ∧ r.length = 1) → Ev (fun k => gleberef7_PrintRecords.j3 k rows acc (i : Int) (j : Int) s c0) R := by
    intro c0 h0
    have hni := need_iff r.length s c0 h0
    have e : (if (c0 || (bytesOf s).any spec) = true then 34 :: (quo (bytesOf s) ++ [34]) else bytesOf s) = tokT r.length s := by
      unfold tokT
      by_cases h : need r.length s
      · rw [if_pos h, if_pos (hni.2 h)]
      · rw [if_neg h, if_neg (fun z => h (hni.1 z))]
    rw [← e] at hn
    refine Ev.step (fun k => ?_) (l2_run rows i j (by omega) s hs acc ha c0 hn _ 0 c0 rfl (Nat.zero_le _) rfl)
    simp only [gleberef7_PrintRecords.j3]
    rfl
  by_cases he : s.toList = ([] : List UInt8)
  · refine Ev.step (fun k => ?_) (hgo ((r.length : Int) == 1) ⟨fun z => ⟨(empty_iff s).1 he, by have := eq_of_beq z; omega⟩, fun z => by rw [z.2]; rfl⟩)
    simp only [gleberef7_PrintRecords.j2]
    rw [if_pos (by omega), if_pos (by omega), if_pos (by omega), hr, if_pos (by omega), hsr, if_pos he]
  · refine Ev.step (fun k => ?_) (hgo false ⟨fun z => (by cases z), fun z => absurd ((empty_iff s).2 z.1) he⟩)
    simp only [gleberef7_PrintRecords.j2]
    rw [if_pos (by omega), if_pos (by omega), if_pos (by omega), hr, if_pos (by omega), hsr, if_neg he]
theorem l1_run (acc : List Int) (r : List ByteArray) (rows : List (List ByteArray)) (i : Nat) (hi : i < rows.length) (hi2 : i < 1000000) (hrd : rd_L5 rows (i : Int) = r) (hr : r.length ≤ 1000) (hs : ∀ s ∈ r, s.size ≤ 1000) (ha : acc.length ≤ 1000000000) {R : List Int}
    (hnext : Ev (fun k => gleberef7_PrintRecords.l0 k rows (acc ++ rowT (rowP r)) ((i + 1 : Nat) : Int)) R) :
    ∀ (l : List ByteArray) (j : Nat), r.drop j = l → j ≤ r.length → Ev (fun k => gleberef7_PrintRecords.l1 k rows (acc ++ joinC ((r.take j).map fun s => (tokT r.length s, bytesOf s))) (i : Int) (j : Int)) R := by
  intro l
  induction l with
  | nil =>
    intro j h hj
    obtain rfl := dropN h hj
    have hp := pre_len r.length r 1000 hs
    have hm : (2 * 1000 + 3) * r.length ≤ 2003 * 1000 := by omega
    refine Ev.step (fun k => ?_) hnext
    simp only [gleberef7_PrintRecords.l1]
    rw [List.take_length, if_pos (by omega), if_pos (by omega), hrd, if_neg (by omega), if_pos (by rw [List.length_append]; omega), wrap_nat (by omega)]
    have e : acc ++ rowT (rowP r) = acc ++ joinC (r.map fun s => (tokT r.length s, bytesOf s)) ++ [10] := by
      unfold rowT rowP toksP
      rw [List.append_assoc]
    rw [e]
  | cons s l ih =>
    intro j h hj
    obtain ⟨h1, h2, h3, h4, h5⟩ := dropG ByteArray.empty h
    have hsm : s.size ≤ 1000 := hs s (List.mem_of_mem_drop (i := j) (by rw [h]; exact List.mem_cons_self ..))
    have hp := pre_len r.length (r.take j) 1000 (fun x hx => hs x (List.mem_of_mem_take hx))
    rw [List.length_take] at hp
    have hm : (2 * 1000 + 3) * min j r.length ≤ 2003 * 1000 := by
      have : min j r.length ≤ 1000 := by omega
      omega
    have hi3 := ih (j + 1) h3 (by omega)
    rw [h5, List.map_append] at hi3
    have ej : joinC ((r.take j).map (fun s => (tokT r.length s, bytesOf s)) ++ [s].map fun s => (tokT r.length s, bytesOf s)) = if j = 0 then tokT r.length s else joinC ((r.take j).map fun s => (tokT r.length s, bytesOf s)) ++ 44 :: tokT r.length s := by
      show joinC (_ ++ [_]) = _
      rw [joinC_snoc]
      by_cases h0 : j = 0
      · subst h0; rfl
      · rw [if_neg h0, if_neg (by
          intro z
          have := congrArg List.length z
          rw [List.length_map, List.length_take, List.length_nil] at this
          omega)]
    rw [ej] at hi3
    by_cases h0 : j = 0
    · subst h0
      rw [if_pos rfl] at hi3
      have := j2_run rows i 0 hi r hrd hr h1 s h2 hsm acc (by omega) hi3
      refine Ev.step (fun k => ?_) this
      simp only [gleberef7_PrintRecords.l1]
      rw [if_pos (by omega), if_pos (by omega), hrd, if_pos (by omega), if_neg (by omega)]
      simp [joinC]
    · rw [if_neg h0] at hi3
      have e : acc ++ (joinC ((r.take j).map fun s => (tokT r.length s, bytesOf s)) ++ 44 :: tokT r.length s) = acc ++ joinC ((r.take j).map fun s => (tokT r.length s, bytesOf s)) ++ [44] ++ tokT r.length s := by simp
      rw [e] at hi3
      have := j2_run rows i j hi r hrd hr h1 s h2 hsm (acc ++ joinC ((r.take j).map fun s => (tokT r.length s, bytesOf s)) ++ [44]) (by simp only [List.length_append, List.length_cons, List.length_nil]; omega) hi3
      refine Ev.step (fun k => ?_) this
      simp only [gleberef7_PrintRecords.l1]
      rw [if_pos (by omega), if_pos (by omega), hrd, if_pos (by omega), if_pos (by omega), if_pos (by rw [List.length_append]; omega)]
theorem l0_run (rows : List (List ByteArray)) (hn : rows.length ≤ 1000) (hr : ∀ r ∈ rows, r.length ≤ 30 ∧ ∀ s ∈ r, s.size ≤ 300) : ∀ (l : List (List ByteArray)) (i : Nat) (acc : List Int), rows.drop i = l → i ≤ rows.length → acc.length ≤ 20000 * i →
    Ev (fun k => gleberef7_PrintRecords.l0 k rows acc (i : Int)) (acc ++ textR (l.map rowP)) := by
  intro l
  induction l with
  | nil =>
    intro i acc h hi ha
    obtain rfl := dropN h hi
    refine Ev.step (f := fun _ => some _) (fun k => ?_) (Ev.now _)
    simp only [gleberef7_PrintRecords.l0]
    rw [if_neg (by omega)]
    simp [textR]
  | cons r l ih =>
    intro i acc h hi ha
    obtain ⟨h1, h2, h3, h4, h5⟩ := dropG ([] : List ByteArray) h
    obtain ⟨r1, r2⟩ := hr r (List.mem_of_mem_drop (i := i) (by rw [h]; exact List.mem_cons_self ..))
    have hl := row_len r r1 r2
    have hi2 := ih (i + 1) (acc ++ rowT (rowP r)) h3 (by omega) (by rw [List.length_append]; omega)
    have e : acc ++ rowT (rowP r) ++ textR (l.map rowP) = acc ++ textR ((r :: l).map rowP) := by simp [textR]
    rw [e] at hi2
    have := l1_run acc r rows i h1 (by omega) h2 (by omega) (fun s hs => by have := r2 s hs; omega) (by omega) hi2 r 0 rfl (Nat.zero_le _)
    refine Ev.step (fun k => ?_) this
    simp only [gleberef7_PrintRecords.l0]
    rw [if_pos (by omega)]
    simp [joinC]
theorem rprint_rows (rows : List (List ByteArray)) (hn : rows.length ≤ 1000) (hr : ∀ r ∈ rows, r.length ≤ 30 ∧ ∀ s ∈ r, s.size ≤ 300) : Ev (fun k => gleberef7_PrintRecords.f k rows) (textR (rows.map rowP)) := by
  have := l0_run rows hn hr rows 0 [] rfl (Nat.zero_le _) (Nat.zero_le _)
  rw [List.nil_append] at this
  exact this
/-- A row is the same as itself. -/
theorem same_self (r : List S59) (hr : r.length ≤ 1000001) : Ev (fun k => gleberef7_SameToks.f k r r) true := by
  have hl : ∀ (d j : Nat), j + d = r.length → Ev (fun k => gleberef7_SameToks.l0 k r r (j : Int)) true := by
    intro d
    induction d with
    | zero =>
      intro j hj
      refine Ev.step (f := fun _ => some _) (fun k => ?_) (Ev.now _)
      simp only [gleberef7_SameToks.l0]
      rw [if_neg (by omega)]
    | succ d ih =>
      intro j hj
      refine Ev.step (fun k => ?_) (ih (j + 1) (by omega))
      simp only [gleberef7_SameToks.l0]
      rw [if_pos (by omega), if_pos (by omega), if_pos (by omega), if_neg (by simp), wrap_nat (by omega)]
  refine Ev.congr (fun k => ?_) (hl r.length 0 (by omega))
  unfold gleberef7_SameToks.f
  rw [if_pos rfl]
  rfl
end Go.Proofs.YtcgchblljhbdaaaDoor.CsvX
