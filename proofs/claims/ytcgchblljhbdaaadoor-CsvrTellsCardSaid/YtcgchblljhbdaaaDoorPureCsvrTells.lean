/- Any bytes are the records that the document says, or wrong at the place that it says; any records are told as it says. -/
import Derived.Test.YtcgchblljhbdaaaDoorCx10
import Derived.Test.YtcgchblljhbdaaaDoorCx14
import Derived.Test.YtcgchblljhbdaaaDoorCx6
import Derived.Test.YtcgchblljhbdaaaDoorCsvR
import Derived.Test.YtcgchblljhbdaaaDoorCsvX
namespace Go.Proofs.YtcgchblljhbdaaaDoor.Pure
open Go Go.RowKit Go.Proofs.YtcgchblljhbdaaaDoor.C Go.Proofs.YtcgchblljhbdaaaDoorW.PrintWords Go.Proofs.YtcgchblljhbdaaaDoorW.PrintMore Go.Proofs.YtcgchblljhbdaaaDoorW.PrintLast Go.Proofs.YtcgchblljhbdaaaDoor.PL Go.Proofs.YtcgchblljhbdaaaDoor.PB Go.Proofs.YtcgchblljhbdaaaDoor.CsvS Go.Proofs.YtcgchblljhbdaaaDoor.CsvP Go.Proofs.YtcgchblljhbdaaaDoor.CsvW
set_option linter.unusedSimpArgs false
set_option linter.unusedVariables false
theorem awC : Ev (fun k => glebelaw9_awake.f k) true := Ev.of (fun k => glebelaw9_awake.mono k) (k := 200) (by kernel_rfl)
theorem finC : Ev (fun k => (glebelaw9_awake.f k).bind fun t => some t) true := Ev.bind (g := fun k => glebelaw9_awake.f k) awC (Ev.now _)
theorem text_run (l0 : List Int) (all : List ByteArray) (hall : all.length = 30) (hp : ∀ x ∈ all, x.size ≤ 40) : ∀ (d i : Nat) (acc : List Int), i + d = 60 → acc.length ≤ 40 * i → (∀ x ∈ acc, 0 ≤ x ∧ x < 256) →
    ∃ T : List Int, Ev (fun k => glebelaw9_Text.l0 k l0 all acc (i : Int)) T ∧ T.length ≤ 2400 ∧ ∀ x ∈ T, 0 ≤ x ∧ x < 256 := by
  have hstop : ∀ (i : Nat) (acc : List Int), ¬ (i < l0.length ∧ i < 60) → acc.length ≤ 2400 → (∀ x ∈ acc, 0 ≤ x ∧ x < 256) → ∃ T : List Int, Ev (fun k => glebelaw9_Text.l0 k l0 all acc (i : Int)) T ∧ T.length ≤ 2400 ∧ ∀ x ∈ T, 0 ≤ x ∧ x < 256 := by
    intro i acc h ha hB
    refine ⟨acc, Ev.step (f := fun _ => some acc) (fun k => ?_) (Ev.now _), ha, hB⟩
    simp only [glebelaw9_Text.l0]
    by_cases h1 : i < l0.length
    · rw [if_pos (by omega), if_neg (by omega)]
    · rw [if_neg (by omega)]
  intro d
  induction d with
  | zero => intro i acc hi ha hB; exact hstop i acc (by omega) (by omega) hB
  | succ d ih =>
    intro i acc hi ha hB
    by_cases h1 : i < l0.length
    · have hm : Int.tmod (Go.bits .and .i64 (rd l0 (i : Int)) 65535) (all.length : Int) = (((rd l0 (i : Int) % 65536 % 30).toNat : Nat) : Int) := by
        rw [and65535, tmod_nn (by omega), hall]
        omega
      have hm30 : (rd l0 (i : Int) % 65536 % 30).toNat < 30 := by omega
      generalize (rd l0 (i : Int) % 65536 % 30).toNat = m at hm hm30
      have hmem : rdOf ByteArray.empty all (m : Int) ∈ all := by
        show all.getD m ByteArray.empty ∈ all
        rw [List.getD_eq_getElem?_getD, List.getElem?_eq_getElem (by omega)]
        exact List.getElem_mem _
      have hsz := hp _ hmem
      generalize rdOf ByteArray.empty all (m : Int) = s at hsz hmem
      have hsl := len_bytes s
      obtain ⟨T, t1, t2, t3⟩ := ih (i + 1) (acc ++ bytesOf (rdOf ByteArray.empty all (m : Int))) (by omega) (by
        have hsz := hp (rdOf ByteArray.empty all (m : Int)) (by
          show all.getD m ByteArray.empty ∈ all
          rw [List.getD_eq_getElem?_getD, List.getElem?_eq_getElem (by omega)]
          exact List.getElem_mem _)
        have hsl := len_bytes (rdOf ByteArray.empty all (m : Int))
        rw [List.length_append]; omega) (by
        intro x hx
        rcases List.mem_append.1 hx with hx | hx
        · exact hB x hx
        · exact bytesOf_byte _ x hx)
      refine ⟨T, Ev.step (fun k => ?_) t1, t2, t3⟩
      have hsz2 := hp (rdOf ByteArray.empty all (m : Int)) (by
        show all.getD m ByteArray.empty ∈ all
        rw [List.getD_eq_getElem?_getD, List.getElem?_eq_getElem (by omega)]
        exact List.getElem_mem _)
      simp only [glebelaw9_Text.l0, hm]
      rw [if_pos (by omega), if_pos (by omega), if_pos (by omega), if_neg (by omega), if_pos (by omega), if_pos (by omega), if_pos (by omega), wrap_nat (by omega)]
    · exact hstop i acc (by omega) (by omega) hB
theorem text_any (l0 : List Int) : ∃ T : List Int, Ev (fun k => glebelaw9_Text.f k l0) T ∧ T.length ≤ 2400 ∧ ∀ x ∈ T, 0 ≤ x ∧ x < 256 := by
  have key : ∀ all : List ByteArray, all.length = 30 → (∀ x ∈ all, x.size ≤ 40) → ∃ T : List Int, Ev (fun k => glebelaw9_Text.l0 k l0 all [] 0) T ∧ T.length ≤ 2400 ∧ ∀ x ∈ T, 0 ≤ x ∧ x < 256 := fun all h1 h2 => text_run l0 all h1 h2 60 0 [] rfl (Nat.zero_le _) (fun x hx => by cases hx)
  unfold glebelaw9_Text.f
  refine key _ ?_ ?_
  · rfl
  · decide +kernel
theorem rows_fin (x2 : List (List Int)) (a3 : Int) (rows : List (List ByteArray)) (row : List ByteArray) (h1 : rows.length ≤ 30) (h2 : ∀ r ∈ rows, r.length ≤ 30 ∧ ∀ s ∈ r, s.size ≤ 300) (h3 : row.length ≤ 30 ∧ ∀ s ∈ row, s.size ≤ 300) (n : Nat) (hn : n = x2.length) :
    Ev (fun k => glebelaw9_CsvrTells.l2 k x2 a3 rows row (x2.length : Int) (n : Int)) true := by
  have hr : ∀ r ∈ rows ++ [row], r.length ≤ 30 ∧ ∀ s ∈ r, s.size ≤ 300 := by
    intro r hr
    rcases List.mem_append.1 hr with hr | hr
    · exact h2 r hr
    · rcases List.mem_cons.1 hr with hr | hr
      · rw [hr]; exact h3
      · cases hr
  have hl : (rows ++ [row]).length ≤ 1000 := by simp only [List.length_append, List.length_cons, List.length_nil]; omega
  refine Ev.step (f := ?qf) ?qh ?qk
  case qh =>
    intro k
    simp only [glebelaw9_CsvrTells.l2]
    rw [if_neg (by omega), if_pos (by omega), Option.bind_some]
  refine Ev.bind (g := fun k => csvr_Print.f k (rows ++ [row])) (print_rows _ hl hr) (Ev.bind (g := fun k => gleberef7_PrintRecords.f k (rows ++ [row])) (CsvX.rprint_rows _ hl hr) (Ev.congr (fun k => ?_) finC))
  rw [if_pos rfl]
theorem l2_run (x2 : List (List Int)) (h30 : x2.length ≤ 30) (a3 : Int) : ∀ (l : List (List Int)) (i : Nat) (rows : List (List ByteArray)) (row : List ByteArray), x2.drop i = l → i ≤ x2.length → rows.length ≤ i → row.length ≤ i → (∀ r ∈ rows, r.length ≤ 30 ∧ ∀ s ∈ r, s.size ≤ 300) → (∀ s ∈ row, s.size ≤ 300) →
    Ev (fun k => glebelaw9_CsvrTells.l2 k x2 a3 rows row (x2.length : Int) (i : Int)) true := by
  intro l
  induction l with
  | nil =>
    intro i rows row h hi h1 h2 h3 h4
    exact rows_fin x2 a3 rows row (by omega) h3 ⟨by omega, h4⟩ i (dropN h hi)
  | cons x l ih =>
    intro i rows row h hi h1 h2 h3 h4
    obtain ⟨k1, k2, k3, k4, k5⟩ := dropG ([] : List Int) h
    have hrd : rd_L7 x2 (i : Int) = x := k2
    by_cases hlong : (x.length : Int) > 300
    · refine Ev.step (fun k => ?_) finC
      simp only [glebelaw9_CsvrTells.l2]
      rw [if_pos (by omega), if_pos (by omega), if_pos (by omega), hrd, if_pos hlong]
    · have hu : 0 ≤ IntKind.u64.wrap (i : Int) := by rw [IntKind.wrap_u64]; omega
      have hsz := size_strOf x
      have hrow : ∀ s ∈ row ++ [strOfNums x], s.size ≤ 300 := by
        intro s hs
        rcases List.mem_append.1 hs with hs | hs
        · exact h4 s hs
        · rcases List.mem_cons.1 hs with hs | hs
          · rw [hs]; omega
          · cases hs
      have hrl : (row ++ [strOfNums x]).length = row.length + 1 := by simp
      by_cases hcut : Go.bits .and .i64 (shr .i64 a3 (IntKind.u64.wrap (i : Int))) 1 = 1
      · refine Ev.step (fun k => ?_) (ih (i + 1) (rows ++ [row ++ [strOfNums x]]) [] k3 (by omega) (by simp only [List.length_append, List.length_cons, List.length_nil]; omega) (Nat.zero_le _) ?_ (fun s hs => by cases hs))
        · simp only [glebelaw9_CsvrTells.l2]
          rw [if_pos (by omega), if_pos (by omega), if_pos (by omega), hrd, if_neg hlong, if_pos (by omega), Option.bind_some, if_pos hu, if_pos hcut, if_pos (by omega), wrap_nat (by omega)]
        · intro r hr
          rcases List.mem_append.1 hr with hr | hr
          · exact h3 r hr
          · rcases List.mem_cons.1 hr with hr | hr
            · rw [hr]; exact ⟨by omega, hrow⟩
            · cases hr
      · refine Ev.step (fun k => ?_) (ih (i + 1) rows (row ++ [strOfNums x]) k3 (by omega) (by omega) (by omega) h3 hrow)
        simp only [glebelaw9_CsvrTells.l2]
        rw [if_pos (by omega), if_pos (by omega), if_pos (by omega), hrd, if_neg hlong, if_pos (by omega), Option.bind_some, if_pos hu, if_neg hcut, wrap_nat (by omega)]
theorem l1_run (x2 : List (List Int)) (a3 : Int) (X : List (List S59)) (hX : X.length ≤ 1000000) (hr : ∀ r ∈ X, r.length ≤ 1000001) (L : List (List Int)) (n : Int) (i : Nat) (hi : i < 1000)
    (hnext : Ev (fun k => glebelaw9_CsvrTells.l0 k x2 a3 L n ((i + 1 : Nat) : Int)) true) :
    ∀ (d j : Nat), j + d = X.length → Ev (fun k => glebelaw9_CsvrTells.l1 k x2 a3 X X L n (i : Int) (X.length : Int) (j : Int)) true := by
  intro d
  induction d with
  | zero =>
    intro j hj
    refine Ev.step (fun k => ?_) hnext
    simp only [glebelaw9_CsvrTells.l1]
    rw [if_neg (by omega), wrap_nat (by omega)]
  | succ d ih =>
    intro j hj
    have hm : rd_L4 X (j : Int) ∈ X := by
      show X.getD j [] ∈ X
      rw [List.getD_eq_getElem?_getD, List.getElem?_eq_getElem (by omega)]
      exact List.getElem_mem _
    refine Ev.step (f := ?qf) ?qh ?qk
    case qh =>
      intro k
      simp only [glebelaw9_CsvrTells.l1]
      rw [if_pos (by omega), if_pos (by omega), if_pos (by omega), if_pos (by omega)]
    refine Ev.bind (g := fun k => gleberef7_SameToks.f k (rd_L4 X (j : Int)) (rd_L4 X (j : Int))) (CsvX.same_self _ (hr _ hm)) (Ev.congr (fun k => ?_) (ih (j + 1) (by omega)))
    rw [if_pos rfl, wrap_nat (by omega)]
theorem l0_run (x2 : List (List Int)) (h30 : x2.length ≤ 30) (a3 : Int) (L : List (List Int)) (hL : L.length ≤ 100) (hx : ∀ x ∈ L, x.length ≤ 1000000 ∧ ∀ c ∈ x, 0 ≤ c ∧ c < 256) : ∀ (l : List (List Int)) (i : Nat), L.drop i = l → i ≤ L.length →
    Ev (fun k => glebelaw9_CsvrTells.l0 k x2 a3 L (L.length : Int) (i : Int)) true := by
  intro l
  induction l with
  | nil =>
    intro i h hi
    have := dropN h hi
    refine Ev.step (fun k => ?_) (l2_run x2 h30 a3 x2 0 [] [] rfl (Nat.zero_le _) (Nat.le_refl _) (Nat.le_refl _) (fun r hr => by cases hr) (fun s hs => by cases hs))
    simp only [glebelaw9_CsvrTells.l0]
    rw [if_neg (by omega)]
    rfl
  | cons x l ih =>
    intro i h hi
    obtain ⟨k1, k2, k3, k4, k5⟩ := dropG ([] : List Int) h
    have hrd : rd_L7 L (i : Int) = x := k2
    obtain ⟨hxl, hxB⟩ := hx x (List.mem_of_mem_drop (i := i) (by rw [h]; exact List.mem_cons_self ..))
    obtain ⟨R, r1, r2, r3, r4⟩ := CsvR.records_both x hxl hxB
    refine Ev.step (f := ?qf) ?qh ?qk
    case qh =>
      intro k
      simp only [glebelaw9_CsvrTells.l0]
      rw [if_pos (by omega), if_pos (by omega), if_pos (by omega), hrd]
    refine Ev.bind (g := fun k => csvr_Parse.f k x) r1 (Ev.bind (g := fun k => gleberef7_Records.f k x) r2 ?_)
    refine Ev.congr (f := fun k => glebelaw9_CsvrTells.j2 k x2 a3 R.1 R.1 L (L.length : Int) (i : Int) false) (fun k => ?_) (Ev.step (fun k => ?_) (l1_run x2 a3 R.1 r3 r4 L (L.length : Int) i (by omega) (ih (i + 1) k3 (by omega)) R.1.length 0 (by omega)))
    · rw [if_neg (by simp), show ((R.1.length : Int) != (R.1.length : Int)) = false by simp]
    · simp only [glebelaw9_CsvrTells.j2]
      rw [if_neg (by simp)]
      rfl
theorem CsvrTells : glebelaw9_CsvrTells.Pure := by
  intro l0 l1 l2 a3 h1 h2 h3 h4 h5 h6 h7 h8 h9
  apply Ev.rounds
  have hB := u8_of_wf h3
  have hj : Ev (fun k => glebelaw9_CsvrTells.j0 k l0 l1 l2 a3 true) true := by
    refine Ev.step (fun k => ?_) finC
    simp only [glebelaw9_CsvrTells.j0]
    rw [if_pos trivial]
  by_cases hlen : (l0.length : Int) > 600
  · refine Ev.congr (fun k => ?_) hj
    unfold glebelaw9_CsvrTells.f
    rw [if_pos hlen]
  · by_cases h30 : (l2.length : Int) > 30
    · refine Ev.congr (fun k => ?_) hj
      unfold glebelaw9_CsvrTells.f
      rw [if_neg hlen, decide_eq_true h30]
    · obtain ⟨T, t1, t2, t3⟩ := text_any l1
      refine Ev.congr (f := fun k => glebelaw9_CsvrTells.j0 k l0 l1 l2 a3 false) (fun k => ?_) ?_
      · unfold glebelaw9_CsvrTells.f
        rw [if_neg hlen, decide_eq_false h30]
      refine Ev.step (f := ?qf) ?qh ?qk
      case qh =>
        intro k
        simp only [glebelaw9_CsvrTells.j0]
        rw [if_neg (by simp)]
      refine Ev.bind (g := fun k => glebelaw9_Text.f k l1) t1 (Ev.bind (g := fun k => glebelaw9_Text.f k l1) t1 ?_)
      refine Ev.congr (fun k => ?_) (l0_run l2 (by omega) a3 [l0, T, T ++ l0] (by simp) ?_ _ 0 rfl (Nat.zero_le _))
      · rw [if_pos (by omega), Option.bind_some]
        rfl
      · refine List.forall_mem_cons.2 ⟨⟨by omega, hB⟩, List.forall_mem_cons.2 ⟨⟨by omega, t3⟩, List.forall_mem_cons.2 ⟨⟨by rw [List.length_append]; omega, ?_⟩, fun x hx => absurd hx List.not_mem_nil⟩⟩⟩
        intro c hc
        rcases List.mem_append.1 hc with hc | hc
        · exact t3 c hc
        · exact hB c hc
end Go.Proofs.YtcgchblljhbdaaaDoor.Pure
