/- Records of signs that may stand in them are printed, and read as they were, whatever stands in their fields. -/
import Derived.Test.YtcgchblljhbdaaaDoorCx16
import Derived.Test.YtcgchblljhbdaaaDoorCx6
import Derived.Test.YtcgchblljhbdaaaDoorCsvW
namespace Go.Proofs.YtcgchblljhbdaaaDoor.Pure
open Go Go.RowKit Go.Proofs.YtcgchblljhbdaaaDoor.C Go.Proofs.YtcgchblljhbdaaaDoorW.PrintWords Go.Proofs.YtcgchblljhbdaaaDoorW.PrintMore Go.Proofs.YtcgchblljhbdaaaDoorW.PrintLast Go.Proofs.YtcgchblljhbdaaaDoor.PL Go.Proofs.YtcgchblljhbdaaaDoor.PB Go.Proofs.YtcgchblljhbdaaaDoor.CsvS Go.Proofs.YtcgchblljhbdaaaDoor.CsvP Go.Proofs.YtcgchblljhbdaaaDoor.CsvW
set_option linter.unusedSimpArgs false
set_option linter.unusedVariables false
theorem awC : Ev (fun k => glebelaw9_awake.f k) true := Ev.of (fun k => glebelaw9_awake.mono k) (k := 200) (by kernel_rfl)
theorem finC : Ev (fun k => (glebelaw9_awake.f k).bind fun t => some t) true := Ev.bind (g := fun k => glebelaw9_awake.f k) awC (Ev.now _)
def okC (c : Int) : Prop := isPl c = true ∨ isE c = true ∨ c = 34
def okS (s : ByteArray) : Prop := s.size ≤ 255 ∧ ∀ c ∈ bytesOf s, okC c
theorem tok_ok (n : Nat) (s : ByteArray) (h : okS s) : Tok (tokT n s) (bytesOf s) := by
  have hl := len_bytes s
  obtain ⟨h1, h2⟩ := h
  refine ⟨by omega, ?_⟩
  by_cases hn : need n s
  · refine .inr ⟨?_, h2⟩
    unfold tokT
    rw [if_pos hn]
  · refine .inl ⟨?_, ?_⟩
    · unfold tokT
      rw [if_neg hn]
    · refine List.all_eq_true.2 (fun c hc => ?_)
      have hn' : ∀ d : Int, d = 34 ∨ d = 44 ∨ d = 10 ∨ d = 13 → d ∉ bytesOf s := by
        intro d hd hm
        apply hn
        rcases hd with rfl | rfl | rfl | rfl
        · exact .inl hm
        · exact .inr (.inl hm)
        · exact .inr (.inr (.inl hm))
        · exact .inr (.inr (.inr (.inl hm)))
      rcases h2 c hc with z | z | z
      · exact z
      · exfalso
        rcases (isE_iff c).1 z with z | z | z
        · exact hn' c (.inr (.inl z)) hc
        · exact hn' c (.inr (.inr (.inl z))) hc
        · exact hn' c (.inr (.inr (.inr z))) hc
      · exact absurd hc (hn' c (.inl z))
def okR (r : List ByteArray) : Prop := r ≠ [] ∧ r.length ≤ 30 ∧ ∀ s ∈ r, okS s
theorem okRows_rows (rows : List (List ByteArray)) (h : ∀ r ∈ rows, okR r) : okRows (rows.map rowP) := by
  refine okRows_full _ ?_
  intro R hR rest
  obtain ⟨r, hr, rfl⟩ := List.mem_map.1 hR
  obtain ⟨o1, o2, o3⟩ := h r hr
  refine ⟨?_, ?_, .inl rfl, ?_⟩
  · intro z
    exact o1 (List.map_eq_nil_iff.1 z)
  · intro y hy
    obtain ⟨s, hs, rfl⟩ := List.mem_map.1 hy
    exact tok_ok _ s (o3 s hs)
  · intro z
    have := congrArg List.length z
    unfold rowT rowP at this
    rw [List.length_append] at this
    simp at this
theorem map_getD {α β : Type} (f : α → β) (z : α) (y : β) (l : List α) (i : Nat) (h : i < l.length) : (l.map f).getD i y = f (l.getD i z) := by
  simp [List.getD_eq_getElem?_getD, List.getElem?_eq_getElem h]
theorem l3_run (rows : List (List ByteArray)) (X : List (List S59)) (i : Nat) (hi : i < 1000) (hiX : i < X.length) (hir : i < rows.length) (r : List ByteArray) (hr : rd_L5 rows (i : Int) = r) (hrl : r.length ≤ 30) (hlen : (rd_L4 X (i : Int)).length = r.length)
    (hget : ∀ j, j < r.length → ∃ q : Nat, rd_T59 (rd_L4 X (i : Int)) (j : Int) = ⟨5, rdOf ByteArray.empty r (j : Int), (q : Int)⟩)
    (hnext : Ev (fun k => glebelaw9_CsvrBack.l2 k rows X (X.length : Int) ((i + 1 : Nat) : Int)) true) :
    ∀ (d j : Nat), j + d = r.length → Ev (fun k => glebelaw9_CsvrBack.l3 k rows X (i : Int) (X.length : Int) (i : Int) (r.length : Int) (j : Int)) true := by
  intro d
  induction d with
  | zero =>
    intro j hj
    refine Ev.step (fun k => ?_) hnext
    simp only [glebelaw9_CsvrBack.l3]
    rw [if_neg (by omega), wrap_nat (by omega)]
  | succ d ih =>
    intro j hj
    obtain ⟨q, hq⟩ := hget j (by omega)
    refine Ev.step (fun k => ?_) (ih (j + 1) (by omega))
    simp only [glebelaw9_CsvrBack.l3]
    rw [if_pos (by omega), if_pos (by omega), if_pos (by omega), if_pos (by omega), if_pos (by omega), if_pos (by omega), hr, if_pos (by omega), hq]
    simp only
    rw [if_pos trivial, if_pos trivial, wrap_nat (by omega)]
theorem l2_run (rows : List (List ByteArray)) (X : List (List S59)) (hX : X.length = rows.length) (hX2 : X.length ≤ 100) (hok : ∀ r ∈ rows, okR r)
    (hlen : ∀ i, i < rows.length → (rd_L4 X (i : Int)).length = (rd_L5 rows (i : Int)).length)
    (hget : ∀ i, i < rows.length → ∀ j, j < (rd_L5 rows (i : Int)).length → ∃ q : Nat, rd_T59 (rd_L4 X (i : Int)) (j : Int) = ⟨5, rdOf ByteArray.empty (rd_L5 rows (i : Int)) (j : Int), (q : Int)⟩) :
    ∀ (d i : Nat), i + d = rows.length → Ev (fun k => glebelaw9_CsvrBack.l2 k rows X (X.length : Int) (i : Int)) true := by
  intro d
  induction d with
  | zero =>
    intro i hi
    refine Ev.step (fun k => ?_) finC
    simp only [glebelaw9_CsvrBack.l2]
    rw [if_neg (by omega)]
  | succ d ih =>
    intro i hi
    have hi' : i < rows.length := by omega
    have hm : rd_L5 rows (i : Int) ∈ rows := by
      show rows.getD i [] ∈ rows
      rw [List.getD_eq_getElem?_getD, List.getElem?_eq_getElem hi']
      exact List.getElem_mem hi'
    have hr := hok _ hm
    refine Ev.step (fun k => ?_) (l3_run rows X i (by omega) (by omega) hi' (rd_L5 rows (i : Int)) rfl hr.2.1 (hlen i hi') (hget i hi') (ih (i + 1) (by omega)) (rd_L5 rows (i : Int)).length 0 (by omega))
    simp only [glebelaw9_CsvrBack.l2]
    rw [if_pos (by omega), if_pos (by omega), if_pos (by omega), if_pos (by omega), hlen i hi', if_pos rfl]
    rfl
theorem back_fin (rows : List (List ByteArray)) (hn : rows.length ≤ 31) (hok : ∀ r ∈ rows, okR r) : Ev (fun k => glebelaw9_CsvrBack.j3 k rows) true := by
  have hsz : ∀ r ∈ rows, r.length ≤ 30 ∧ ∀ s ∈ r, s.size ≤ 300 := by
    intro r hr
    obtain ⟨o1, o2, o3⟩ := hok r hr
    exact ⟨o2, fun s hs => by have := (o3 s hs).1; omega⟩
  have hp := print_rows rows (by omega) hsz
  have hl := text_len rows hsz
  have hq := parse_rows (rows.map rowP) (by omega) (text_byte rows) (okRows_rows rows hok)
  have hX : (rowsAt 0 (rows.map rowP)).length = rows.length := by rw [rowsAt_len, List.length_map]
  have hrow : ∀ i, i < rows.length → ∃ p' tail, rd_L4 (rowsAt 0 (rows.map rowP)) (i : Int) = toks p' (toksP (rd_L5 rows (i : Int))) ∧ (textR (rows.map rowP)).drop p' = joinC (toksP (rd_L5 rows (i : Int))) ++ tail := by
    intro i hi
    have := rows_get (textR (rows.map rowP)) (rows.map rowP) 0 i rfl (by rw [List.length_map]; exact hi)
    rw [map_getD rowP [] ([], []) rows i hi] at this
    exact this
  have hgo := l2_run rows (rowsAt 0 (rows.map rowP)) hX (by omega) hok
    (by
      intro i hi
      obtain ⟨p', tail, e1, e2⟩ := hrow i hi
      rw [e1, toks_len]
      simp [toksP])
    (by
      intro i hi j hj
      obtain ⟨p', tail, e1, e2⟩ := hrow i hi
      obtain ⟨q, l', f1, f2⟩ := toks_get (textR (rows.map rowP)) (toksP (rd_L5 rows (i : Int))) p' j tail e2 (by simp only [toksP, List.length_map]; exact hj)
      refine ⟨q, ?_⟩
      rw [e1]
      show (toks p' (toksP (rd_L5 rows (i : Int)))).getD j z59 = _
      rw [f1]
      have e : (toksP (rd_L5 rows (i : Int))).getD j ([], []) = (tokT (rd_L5 rows (i : Int)).length ((rd_L5 rows (i : Int)).getD j ByteArray.empty), bytesOf ((rd_L5 rows (i : Int)).getD j ByteArray.empty)) := map_getD _ ByteArray.empty ([], []) _ j hj
      rw [e]
      simp only
      rw [strOf_bytesOf]
      rfl)
    rows.length 0 (by omega)
  refine Ev.step (f := ?qf) ?qh ?qk
  case qh =>
    intro k
    simp only [glebelaw9_CsvrBack.j3]
    rfl
  refine Ev.bind (g := fun k => csvr_Print.f k rows) hp (Ev.bind (g := fun k => csvr_Parse.f k (textR (rows.map rowP))) hq ?_)
  refine Ev.congr (f := fun k => glebelaw9_CsvrBack.j4 k rows (rowsAt 0 (rows.map rowP)) false) (fun k => ?_) (Ev.step (fun k => ?_) hgo)
  · rw [if_pos (by rfl)]
    simp only [hX]
    rw [show ((rows.length : Int) != (rows.length : Int)) = false by simp]
  · simp only [glebelaw9_CsvrBack.j4]
    rw [if_neg (by simp)]
    rfl
def sg : List Int := [10, 13, 34, 44, 97, 98, 32, 48, 49, 57]
theorem sg_all (c : Int) (h0 : 0 ≤ c) (h1 : c < 256) : 0 ≤ Int.tmod (Go.bits .and .u8 c 255) 10 ∧ Int.tmod (Go.bits .and .u8 c 255) 10 < 10 ∧ okC (rd sg (Int.tmod (Go.bits .and .u8 c 255) 10)) ∧ 0 ≤ rd sg (Int.tmod (Go.bits .and .u8 c 255) 10) ∧ rd sg (Int.tmod (Go.bits .and .u8 c 255) 10) < 256 := by
  have h := byteB (p := fun c => decide (0 ≤ Int.tmod (Go.bits .and .u8 c 255) 10) && decide (Int.tmod (Go.bits .and .u8 c 255) 10 < 10) && (isPl (rd sg (Int.tmod (Go.bits .and .u8 c 255) 10)) || isE (rd sg (Int.tmod (Go.bits .and .u8 c 255) 10)) || (rd sg (Int.tmod (Go.bits .and .u8 c 255) 10) == 34)) && decide (0 ≤ rd sg (Int.tmod (Go.bits .and .u8 c 255) 10)) && decide (rd sg (Int.tmod (Go.bits .and .u8 c 255) 10) < 256)) (by kernel_rfl) c h0 h1
  simp only [Bool.and_eq_true, Bool.or_eq_true, decide_eq_true_eq, beq_iff_eq] at h
  obtain ⟨⟨⟨⟨a, b⟩, d⟩, e⟩, f⟩ := h
  refine ⟨a, b, ?_, e, f⟩
  rcases d with (d | d) | d
  · exact .inl d
  · exact .inr (.inl d)
  · exact .inr (.inr d)
theorem l1_run (fields : List (List Int)) (a1 : Int) (rows : List (List ByteArray)) (row : List ByteArray) (i : Nat) (x : List Int) (hx : x.length ≤ 255) (hB : ∀ c ∈ x, 0 ≤ c ∧ c < 256)
    (hnext : ∀ s : ByteArray, okS s → Ev (fun k => glebelaw9_CsvrBack.l1 k fields a1 rows row (i : Int) s x (x.length : Int) (x.length : Int)) true) :
    ∀ (l : List Int) (j : Nat) (F : List Int), x.drop j = l → j ≤ x.length → F.length = j → (∀ c ∈ F, okC c ∧ 0 ≤ c ∧ c < 256) → Ev (fun k => glebelaw9_CsvrBack.l1 k fields a1 rows row (i : Int) (strOfNums F) x (x.length : Int) (j : Int)) true := by
  intro l
  induction l with
  | nil =>
    intro j F h hj hF hFo
    obtain rfl := dn (b := x) h hj
    have hz := size_strOf F
    have hb := bytesOf_strOf F (fun c hc => (hFo c hc).2)
    exact hnext (strOfNums F) ⟨by omega, by rw [hb]; exact fun c hc => (hFo c hc).1⟩
  | cons c l ih =>
    intro j F h hj hF hFo
    obtain ⟨h1, h2, h3, h4⟩ := dc h
    have hz := size_strOf F
    have hc := hB c (List.mem_of_mem_drop (i := j) (by rw [h]; exact List.mem_cons_self ..))
    obtain ⟨g1, g2, g3, g4, g5⟩ := sg_all c hc.1 hc.2
    have hi := ih (j + 1) (F ++ [rd sg (Int.tmod (Go.bits .and .u8 c 255) 10)]) h3 (by omega) (by rw [List.length_append]; simp [hF]) (by
      intro d hd
      rcases List.mem_append.1 hd with hd | hd
      · exact hFo d hd
      · rcases List.mem_cons.1 hd with hd | hd
        · rw [hd]; exact ⟨g3, g4, g5⟩
        · cases hd)
    rw [strOf_app] at hi
    refine Ev.step (fun k => ?_) hi
    have hsgl : (sg.length : Int) = 10 := rfl
    have h1s : (strOfNums [rd sg (Int.tmod (Go.bits .and .u8 c 255) 10)]).size = 1 := size_strOf _
    simp only [glebelaw9_CsvrBack.l1]
    rw [if_pos (by omega), if_pos (by omega), if_pos (by omega), Option.bind_some, h2, if_pos g1]
    show (if Int.tmod (Go.bits .and .u8 c 255) 10 < (sg.length : Int) then _ else _) = _
    rw [if_pos (by omega), Option.bind_some]
    show (if (strOfNums F).size + (strOfNums [rd sg (Int.tmod (Go.bits .and .u8 c 255) 10)]).size ≤ 9223372036854775807 then glebelaw9_CsvrBack.l1 k fields a1 rows row (i : Int) (strOfNums F ++ strOfNums [rd sg (Int.tmod (Go.bits .and .u8 c 255) 10)]) x (x.length : Int) (wrap64 ((j : Int) + 1)) else _) = _
    rw [if_pos (by omega), wrap_nat (by omega)]
theorem l0_run (fields : List (List Int)) (a1 : Int) (hB : ∀ x ∈ fields, ∀ c ∈ x, 0 ≤ c ∧ c < 256) : ∀ (d i : Nat) (rows : List (List ByteArray)) (row : List ByteArray), i + d = 30 → rows.length ≤ i → row.length ≤ i → (∀ r ∈ rows, okR r) → (∀ s ∈ row, okS s) →
    Ev (fun k => glebelaw9_CsvrBack.l0 k fields a1 rows row (i : Int)) true := by
  have hstop : ∀ (i : Nat) (rows : List (List ByteArray)) (row : List ByteArray), i ≤ 30 → rows.length ≤ i → row.length ≤ i → (∀ r ∈ rows, okR r) → (∀ s ∈ row, okS s) → Ev (fun k => glebelaw9_CsvrBack.j1 k fields a1 rows row (i : Int) false) true := by
    intro i rows row hi h1 h2 h3 h4
    by_cases h0 : row.length = 0
    · refine Ev.step (fun k => ?_) (back_fin rows (by omega) h3)
      simp only [glebelaw9_CsvrBack.j1]
      rw [if_neg (by simp), if_neg (by omega)]
    · refine Ev.step (fun k => ?_) (back_fin (rows ++ [row]) (by rw [List.length_append]; simp only [List.length_cons, List.length_nil]; omega) ?_)
      · simp only [glebelaw9_CsvrBack.j1]
        rw [if_neg (by simp), if_pos (by omega), if_pos (by omega)]
      · intro r hr
        rcases List.mem_append.1 hr with hr | hr
        · exact h3 r hr
        · rcases List.mem_cons.1 hr with hr | hr
          · rw [hr]
            exact ⟨fun z => h0 (by rw [z]; rfl), by omega, h4⟩
          · cases hr
  intro d
  induction d with
  | zero =>
    intro i rows row hi h1 h2 h3 h4
    have hs := hstop i rows row (by omega) h1 h2 h3 h4
    refine Ev.step (fun k => ?_) hs
    simp only [glebelaw9_CsvrBack.l0]
    by_cases hl : (i : Int) < (fields.length : Int)
    · rw [if_pos hl, show decide ((i : Int) < 30) = false from decide_eq_false (by omega)]
    · rw [if_neg hl]
  | succ d ih =>
    intro i rows row hi h1 h2 h3 h4
    by_cases hl : i < fields.length
    · have hm : rd_L7 fields (i : Int) ∈ fields := by
        show fields.getD i [] ∈ fields
        rw [List.getD_eq_getElem?_getD, List.getElem?_eq_getElem hl]
        exact List.getElem_mem hl
      have hxB := hB _ hm
      refine Ev.step (f := fun k => glebelaw9_CsvrBack.j1 k fields a1 rows row (i : Int) true) (fun k => ?_) ?_
      · simp only [glebelaw9_CsvrBack.l0]
        rw [if_pos (by omega), show decide ((i : Int) < 30) = true from decide_eq_true (by omega)]
      · by_cases hlong : ((rd_L7 fields (i : Int)).length : Int) > 255
        · refine Ev.step (fun k => ?_) finC
          simp only [glebelaw9_CsvrBack.j1]
          rw [if_pos trivial, if_pos (by omega), if_pos (by omega), if_pos hlong]
        · have := l1_run fields a1 rows row i (rd_L7 fields (i : Int)) (by omega) hxB ?_ _ 0 [] rfl (Nat.zero_le _) rfl (fun c hc => by cases hc)
          · refine Ev.step (fun k => ?_) this
            simp only [glebelaw9_CsvrBack.j1]
            rw [if_pos trivial, if_pos (by omega), if_pos (by omega), if_neg hlong]
            rfl
          · intro s hs
            have hu : 0 ≤ IntKind.u64.wrap (i : Int) := by rw [IntKind.wrap_u64]; omega
            have hrow : ∀ t ∈ row ++ [s], okS t := by
              intro t ht
              rcases List.mem_append.1 ht with ht | ht
              · exact h4 t ht
              · rcases List.mem_cons.1 ht with ht | ht
                · rw [ht]; exact hs
                · cases ht
            have hrl : (row ++ [s]).length = row.length + 1 := by simp
            by_cases hcut : Go.bits .and .i64 (shr .i64 a1 (IntKind.u64.wrap (i : Int))) 1 = 1
            · refine Ev.step (fun k => ?_) (ih (i + 1) (rows ++ [row ++ [s]]) [] (by omega) (by simp only [List.length_append, List.length_cons, List.length_nil]; omega) (Nat.zero_le _) ?_ (fun t ht => by cases ht))
              · simp only [glebelaw9_CsvrBack.l1]
                rw [if_neg (by omega), if_pos (by omega), Option.bind_some, if_pos hu, if_pos hcut, if_pos (by omega), wrap_nat (by omega)]
              · intro r hr
                rcases List.mem_append.1 hr with hr | hr
                · exact h3 r hr
                · rcases List.mem_cons.1 hr with hr | hr
                  · rw [hr]; exact ⟨by simp, by omega, hrow⟩
                  · cases hr
            · refine Ev.step (fun k => ?_) (ih (i + 1) rows (row ++ [s]) (by omega) (by omega) (by omega) h3 hrow)
              simp only [glebelaw9_CsvrBack.l1]
              rw [if_neg (by omega), if_pos (by omega), Option.bind_some, if_pos hu, if_neg hcut, wrap_nat (by omega)]
    · have hs := hstop i rows row (by omega) h1 h2 h3 h4
      refine Ev.step (fun k => ?_) hs
      simp only [glebelaw9_CsvrBack.l0]
      rw [if_neg (by omega)]
theorem CsvrBack : glebelaw9_CsvrBack.Pure := by
  intro l0 a1 h1 h2 h3
  apply Ev.rounds
  exact l0_run l0 a1 (fun x hx => u8_of_wf (h2 x hx).2) 30 0 [] [] rfl (Nat.le_refl _) (Nat.le_refl _) (fun r hr => by cases hr) (fun s hs => by cases hs)
end Go.Proofs.YtcgchblljhbdaaaDoor.Pure
