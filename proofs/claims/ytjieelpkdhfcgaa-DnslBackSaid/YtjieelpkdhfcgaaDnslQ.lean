/- Lines in rows, and rows told: in plain lists. -/
import Derived.Test.YtjieelpkdhfcgaaEx3
import Derived.Test.YtjieelpkdhfcgaaEx4
import Derived.Test.YtjieelpkdhfcgaaEx5
import Derived.Test.YtjieelpkdhfcgaaEx6
import Derived.Test.YtjieelpkdhfcgaaDnslR
namespace Go.Proofs.Ytjieelpkdhfcgaa.DnslQ
open Go Go.RowKit Go.Proofs.YtjieelpkdhfcgaaW.PrintWords Go.Proofs.Ytjieelpkdhfcgaa.PL Go.Proofs.Ytjieelpkdhfcgaa.E Go.Proofs.Ytjieelpkdhfcgaa.DnslS Go.Proofs.Ytjieelpkdhfcgaa.DnslR
set_option linter.unusedSimpArgs false
set_option linter.unusedVariables false
def tokL (x : List Int × Nat) : S36 := ⟨1, strOfNums x.1, (x.2 : Int)⟩
def sumL (l : List (List Int)) : Nat := (l.map fun x => x.length + 1).sum
theorem trim_len (l : List Int) : (trim l).length ≤ l.length ∧ ∀ x ∈ trim l, x ∈ l := by
  unfold trim
  split
  · exact ⟨by simp, fun x hx => List.mem_of_mem_take hx⟩
  · exact ⟨Nat.le_refl _, fun x hx => hx⟩
/-- Lines of any bytes. -/
theorem lines_any : ∀ (d : Nat) (b : List Int) (at1 : Nat), b.length ≤ d → ∃ its : List (List Int × Nat), linesS at1 [] b = its.map tokL ∧ sumL (its.map (·.1)) ≤ b.length + 1 ∧ ∀ it ∈ its, it.2 + it.1.length ≤ at1 + b.length ∧ ∀ x ∈ it.1, x ∈ b := by
  intro d
  induction d with
  | zero =>
    intro b at1 h
    obtain rfl : b = [] := List.length_eq_zero_iff.mp (by omega)
    exact ⟨[], rfl, by simp [sumL], fun it h => by cases h⟩
  | succ d ih =>
    intro b at1 h
    have htw := tw_len (p := notNl) b
    rw [lines_tw]
    cases hdw : b.dropWhile notNl with
    | nil =>
      by_cases hb : b = []
      · simp only [List.nil_append, if_pos hb]
        exact ⟨[], rfl, by simp [sumL], fun it h => by cases h⟩
      · simp only [List.nil_append, if_neg hb]
        refine ⟨[(b, at1)], rfl, by simp [sumL], fun it hit => ?_⟩
        obtain rfl := List.mem_singleton.1 hit
        exact ⟨Nat.le_refl _, fun x hx => hx⟩
    | cons c l =>
      rw [hdw] at htw
      simp only [List.length_cons] at htw
      simp only [List.nil_append]
      obtain ⟨h1, h2⟩ := trim_len (b.takeWhile notNl)
      obtain ⟨its, i1, i2, i3⟩ := ih l (at1 + (b.takeWhile notNl).length + 1) (by omega)
      have hl : ∀ x ∈ l, x ∈ b := fun x hx => by
        have hs := (List.takeWhile_append_dropWhile (p := notNl) (l := b))
        rw [hdw] at hs
        rw [← hs]
        exact List.mem_append_right _ (List.mem_cons_of_mem _ hx)
      refine ⟨(trim (b.takeWhile notNl), at1) :: its, by rw [i1]; rfl, ?_, fun it hit => ?_⟩
      · unfold sumL at i2 ⊢
        rw [List.map_cons, List.map_cons, List.sum_cons]
        show (trim _).length + 1 + _ ≤ _
        omega
      · rcases List.mem_cons.1 hit with rfl | hit
        · refine ⟨by show at1 + (trim _).length ≤ _; omega, fun x hx => ?_⟩
          exact (List.takeWhile_prefix notNl).mem (h2 x hx)
        · obtain ⟨j1, j2⟩ := i3 it hit
          exact ⟨by omega, fun x hx => hl x (j2 x hx)⟩
def textL (l : List (List Int)) : List Int := (l.map fun x => x ++ [10]).flatten
theorem textL_len (l : List (List Int)) : (textL l).length = sumL l := by
  induction l with
  | nil => rfl
  | cons x l ih =>
    show (x ++ [10] ++ textL l).length = x.length + 1 + sumL l
    rw [List.length_append, List.length_append, ih]
    rfl
theorem textL_app (a b : List (List Int)) : textL (a ++ b) = textL a ++ textL b := by simp [textL]
def NoNl (L : List Int) : Prop := (∀ x ∈ L, x ≠ 10) ∧ ∀ x ∈ L, x ≠ 13
theorem trim_none (L : List Int) (h : ∀ x ∈ L, x ≠ 13) : trim L = L := by
  unfold trim
  rw [if_neg]
  rintro ⟨hne, h13⟩
  have hp : 0 < L.length := List.length_pos_iff.mpr hne
  have e : ((L.length : Int) - 1) = ((L.length - 1 : Nat) : Int) := by omega
  rw [e] at h13
  exact h _ (rd_mem L (L.length - 1) (by omega)) h13
theorem lines_text : ∀ (l : List (List Int)) (at1 : Nat), (∀ L ∈ l, NoNl L) → ∃ its : List (List Int × Nat), linesS at1 [] (textL l) = its.map tokL ∧ its.map (·.1) = l ∧ ∀ it ∈ its, it.2 + it.1.length ≤ at1 + (textL l).length := by
  intro l
  induction l with
  | nil => intro at1 _; exact ⟨[], rfl, rfl, fun it h => by cases h⟩
  | cons L l ih =>
    intro at1 h
    obtain ⟨h10, h13⟩ := h L List.mem_cons_self
    obtain ⟨its, i1, i2, i3⟩ := ih (at1 + L.length + 1) (fun L hL => h L (List.mem_cons_of_mem _ hL))
    have e : textL (L :: l) = L ++ 10 :: textL l := by
      show (L ++ [10]) ++ textL l = _
      rw [List.append_assoc]; rfl
    have hd : (L ++ 10 :: textL l).dropWhile notNl = 10 :: textL l := by
      rw [List.dropWhile_append_of_pos (fun x hx => by simp [notNl, h10 x hx])]
      rfl
    have ht : (L ++ 10 :: textL l).takeWhile notNl = L := by
      rw [List.takeWhile_append_of_pos (fun x hx => by simp [notNl, h10 x hx])]
      show L ++ [] = L
      rw [List.append_nil]
    refine ⟨(L, at1) :: its, ?_, by rw [List.map_cons, i2], fun it hit => ?_⟩
    · rw [e, lines_tw, hd, ht]
      simp only [List.nil_append]
      rw [trim_none L h13, i1]
      rfl
    · have hl : (textL (L :: l)).length = L.length + 1 + (textL l).length := by rw [e, List.length_append, List.length_cons]; omega
      rcases List.mem_cons.1 hit with rfl | hit
      · show at1 + L.length ≤ _; omega
      · have := i3 it hit; omega
/-! ### rows of lines -/
def skipL (L : List Int) : Bool := match L with | [] => true | c :: _ => c == 35
def parseK : List (List Int) → Option (List (List Int × List (List Int)))
  | [] => some []
  | L :: l => if skipL L = true then parseK l else match rowS L with
    | none => none
    | some kp => (parseK l).map (kp :: ·)
def kpB (kp : List Int × List (List Int)) : ByteArray × List ByteArray := (strOfNums kp.1, kp.2.map strOfNums)
def rwB (r : S34) : ByteArray × List ByteArray := (r.f0, r.f1.map (·.f1))
theorem parseK_ok : ∀ (l : List (List Int)) (kps), parseK l = some kps → (∀ kp ∈ kps, OkR kp) ∧ sumL (kps.map rowB) ≤ sumL l ∧ kps.length ≤ l.length := by
  intro l
  induction l with
  | nil =>
    intro kps h
    injection h with h
    subst h
    exact ⟨fun kp h => (by cases h), Nat.le_refl _, Nat.le_refl _⟩
  | cons L l ih =>
    intro kps h
    have e : sumL (L :: l) = L.length + 1 + sumL l := rfl
    unfold parseK at h
    by_cases hs : skipL L = true
    · rw [if_pos hs] at h
      obtain ⟨h1, h2, h3⟩ := ih kps h
      exact ⟨h1, by omega, by simp only [List.length_cons]; omega⟩
    · rw [if_neg hs] at h
      cases hr : rowS L with
      | none => rw [hr] at h; cases h
      | some kp =>
        rw [hr] at h
        cases hp : parseK l with
        | none => rw [hp] at h; cases h
        | some kps' =>
          rw [hp] at h
          injection h with h
          subst h
          obtain ⟨h1, h2, h3⟩ := ih kps' hp
          obtain ⟨k1, k2⟩ := rowS_ok L kp hr
          refine ⟨fun kp' h => ?_, ?_, by simp only [List.length_cons]; omega⟩
          · rcases List.mem_cons.1 h with rfl | h
            · exact k2
            · exact h1 kp' h
          · show (rowB kp).length + 1 + sumL (kps'.map rowB) ≤ _
            rw [← k1]; omega
theorem rowB_skip (kp : List Int × List (List Int)) (h : OkR kp) : skipL (rowB kp) = false := by
  obtain ⟨h1, h2, _⟩ := h
  cases hk : kp.1 with
  | nil => exact absurd hk h1
  | cons c l =>
    unfold rowB
    rw [hk]
    have := (isK_ne (h2 c (by rw [hk]; exact List.mem_cons_self))).2.1
    simp [skipL, this]
theorem join_mem (ps : List (List Int)) : ∀ x ∈ joinC ps, x = 44 ∨ ∃ p ∈ ps, x ∈ p := by
  induction ps with
  | nil => intro x hx; cases hx
  | cons p ps ih =>
    cases ps with
    | nil => intro x hx; exact .inr ⟨p, List.mem_cons_self, hx⟩
    | cons q qs =>
      intro x hx
      have hx : x ∈ p ++ 44 :: joinC (q :: qs) := hx
      rcases List.mem_append.1 hx with hx | hx
      · exact .inr ⟨p, List.mem_cons_self, hx⟩
      · rcases List.mem_cons.1 hx with hx | hx
        · exact .inl hx
        · rcases ih x hx with h | ⟨r, hr, h⟩
          · exact .inl h
          · exact .inr ⟨r, List.mem_cons_of_mem _ hr, h⟩
theorem rowB_mem (kp : List Int × List (List Int)) (h : OkR kp) : ∀ x ∈ rowB kp, 32 ≤ x ∧ x ≤ 126 := by
  obtain ⟨h1, h2, h3, h4⟩ := h
  intro x hx
  unfold rowB at hx
  rcases List.mem_append.1 hx with hx | hx
  · have := h2 x hx
    simp only [isK, Bool.or_eq_true, Bool.and_eq_true, decide_eq_true_eq, beq_iff_eq] at this
    omega
  · rcases List.mem_cons.1 hx with hx | hx
    · omega
    · rcases join_mem _ x hx with hx | ⟨p, hp, hx⟩
      · omega
      · have := isP_ne ((okP_all (h4 p hp)).1 x hx); omega
theorem rowB_nonl (kp : List Int × List (List Int)) (h : OkR kp) : NoNl (rowB kp) := ⟨fun x hx => by have := rowB_mem kp h x hx; omega, fun x hx => by have := rowB_mem kp h x hx; omega⟩
theorem parseK_rows : ∀ (kps : List (List Int × List (List Int))) (l : List (List Int)), (∀ kp ∈ kps, OkR kp) → parseK (kps.map rowB ++ l) = (parseK l).map (kps ++ ·) := by
  intro kps
  induction kps with
  | nil => intro l _; simp
  | cons kp kps ih =>
    intro l h
    have hk := h kp List.mem_cons_self
    show parseK (rowB kp :: (kps.map rowB ++ l)) = _
    conv => lhs; unfold parseK
    rw [if_neg (by rw [rowB_skip kp hk]; simp), rowS_back kp hk, ih l (fun kp h' => h kp (List.mem_cons_of_mem _ h'))]
    simp only [Option.map_map]
    rfl
theorem Parse_loop (its : List (List Int × Nat)) (hlen : its.length < 1000000) (hi : ∀ it ∈ its, it.1.length < 1000000 ∧ it.2 < 2000000 ∧ ∀ x ∈ it.1, 0 ≤ x ∧ x < 256) : ∀ (l : List (List Int × Nat)) (i : Nat) (acc : List S34), its.drop i = l → i ≤ its.length → acc.length ≤ i →
    (∃ (kps : List (List Int × List (List Int))) (rows : List S34), parseK (l.map (·.1)) = some kps ∧ rows.map rwB = kps.map kpB ∧ Ev (fun k => dnsl_Parse.l0 k acc (its.map tokL) (its.length : Int) (i : Int)) (acc ++ rows, 0, 0)) ∨
    (parseK (l.map (·.1)) = none ∧ ∃ e p : Int, e ≠ 0 ∧ (∃ it ∈ its, (it.2 : Int) ≤ p ∧ p ≤ it.2 + it.1.length) ∧ Ev (fun k => dnsl_Parse.l0 k acc (its.map tokL) (its.length : Int) (i : Int)) ([], e, p)) := by
  intro l
  induction l with
  | nil =>
    intro i acc h hle ha
    have hl := congrArg List.length h
    simp at hl
    left
    refine ⟨[], [], rfl, rfl, Ev.step (f := fun _ => some _) (fun k => ?_) (Ev.now _)⟩
    simp only [dnsl_Parse.l0]
    rw [if_neg (by omega), List.append_nil]
  | cons it l ih =>
    intro i acc h hle ha
    have hl := congrArg List.length h
    simp only [List.length_drop, List.length_cons] at hl
    have hlt : i < its.length := by omega
    have e := List.drop_eq_getElem_cons hlt
    rw [h] at e
    injection e with e1 e2
    have hmem : it ∈ its := by rw [e1]; exact List.getElem_mem _
    obtain ⟨b1, b2, b3⟩ := hi it hmem
    have hrd : rd_T36 (its.map tokL) (i : Int) = tokL it := by
      show (its.map tokL).getD i _ = _
      rw [List.getD_eq_getElem?_getD, List.getElem?_map, List.getElem?_eq_getElem hlt, e1]
      rfl
    have hsz := size_strOf it.1
    have hbs := bytesOf_strOf it.1 b3
    -- the test of a line
    have hopen : ∀ {R}, Ev (fun k => dnsl_Parse.j1 k acc (its.map tokL) (its.length : Int) (i : Int) (skipL it.1) 1 (strOfNums it.1) (it.2 : Int)) R → Ev (fun k => dnsl_Parse.l0 k acc (its.map tokL) (its.length : Int) (i : Int)) R := by
      intro R K
      refine Ev.step (fun k => ?_) K
      simp only [dnsl_Parse.l0]
      rw [if_pos (by omega), if_pos (by omega), if_pos (by rw [List.length_map]; omega), hrd]
      show (if (strOfNums it.1).toList = [] then _ else (if 0 < ((strOfNums it.1).size : Int) then dnsl_Parse.j1 k acc _ _ _ ((bt (strOfNums it.1) 0) == 35) 1 (strOfNums it.1) (it.2 : Int) else none)) = _
      cases hL : it.1 with
      | nil =>
        rw [if_pos (by rw [Go.Lib.strOfNums_toList]; rfl)]
        show dnsl_Parse.j1 k acc _ _ _ true 1 (strOfNums it.1) (it.2 : Int) = _
        rw [hL]
        rfl
      | cons c L =>
        have hnn : (strOfNums (c :: L)).toList ≠ ([] : List UInt8) := by
          intro h'
          rw [Go.Lib.strOfNums_toList] at h'
          have := congrArg List.length h'
          simp [Lib.bytesOf] at this
        have hbt : bt (strOfNums (c :: L)) 0 = c := by
          have hb' : bytesOf (strOfNums (c :: L)) = c :: L := by rw [← hL]; exact hbs
          have := bt_rd (strOfNums (c :: L)) 0
          rw [hb'] at this
          exact this
        rw [if_neg hnn, if_pos (by rw [size_strOf]; simp), hbt]
        rfl
    have hwr : wrap64 ((i : Int) + 1) = ((i + 1 : Nat) : Int) := wrap_n1 i (by omega)
    cases hs : skipL it.1 with
    | true =>
      have hgo : ∀ {R}, Ev (fun k => dnsl_Parse.l0 k acc (its.map tokL) (its.length : Int) ((i + 1 : Nat) : Int)) R → Ev (fun k => dnsl_Parse.l0 k acc (its.map tokL) (its.length : Int) (i : Int)) R := by
        intro R K
        refine hopen ?_
        rw [hs]
        refine Ev.step (fun k => ?_) K
        simp only [dnsl_Parse.j1]
        rw [if_pos trivial, hwr]
      have ep : parseK ((it :: l).map (·.1)) = parseK (l.map (·.1)) := by
        show parseK (it.1 :: l.map (·.1)) = _
        conv => lhs; unfold parseK
        rw [if_pos hs]
      rw [ep]
      rcases ih (i + 1) acc e2.symm (by omega) (by omega) with ⟨kps, rows, h1, h2, h3⟩ | ⟨h1, e, p, h2, h3, h4⟩
      · exact .inl ⟨kps, rows, h1, h2, hgo h3⟩
      · exact .inr ⟨h1, e, p, h2, h3, hgo h4⟩
    | false =>
      have hj : ∀ {R}, Ev (fun k => (dnsl_row.f k 1 (strOfNums it.1) (it.2 : Int)).bind fun bt150 => (if bt150.2.2.2.1 = 0 then (if acc.length < 2932031007402 then (dnsl_Parse.l0 k (acc ++ [(⟨bt150.1, bt150.2.1, bt150.2.2.1⟩ : S34)]) (its.map tokL) (its.length : Int) (wrap64 ((i : Int) + 1))) else (none)) else (some (([] : List (S34)), bt150.2.2.2.1, bt150.2.2.2.2)))) R → Ev (fun k => dnsl_Parse.l0 k acc (its.map tokL) (its.length : Int) (i : Int)) R := by
        intro R K
        refine hopen ?_
        rw [hs]
        refine Ev.step (fun k => ?_) K
        simp only [dnsl_Parse.j1]
        rw [if_neg (by simp)]
      have ep : parseK ((it :: l).map (·.1)) = match rowS it.1 with
          | none => none
          | some kp => (parseK (l.map (·.1))).map (kp :: ·) := by
        show parseK (it.1 :: l.map (·.1)) = _
        conv => lhs; unfold parseK
        rw [if_neg (by rw [hs]; simp)]
      rw [ep]
      rcases row_any it.1 b1 b3 1 (it.2 : Int) (by omega) (by omega) with ⟨kp, ts, r1, r2, r3⟩ | ⟨r1, e, p, r2, r3, r4, r5⟩
      · rw [r1]
        have hgo : ∀ {R}, Ev (fun k => dnsl_Parse.l0 k (acc ++ [(⟨strOfNums kp.1, ts, (it.2 : Int)⟩ : S34)]) (its.map tokL) (its.length : Int) ((i + 1 : Nat) : Int)) R → Ev (fun k => dnsl_Parse.l0 k acc (its.map tokL) (its.length : Int) (i : Int)) R := by
          intro R K
          refine hj (Ev.bind (g := fun k => dnsl_row.f k 1 (strOfNums it.1) (it.2 : Int)) r3 (Ev.congr (fun k => ?_) K))
          show (if (0 : Int) = 0 then (if acc.length < 2932031007402 then _ else none) else _) = _
          rw [if_pos rfl, if_pos (by omega), hwr]
        rcases ih (i + 1) (acc ++ [(⟨strOfNums kp.1, ts, (it.2 : Int)⟩ : S34)]) e2.symm (by omega) (by rw [List.length_append, List.length_singleton]; omega) with ⟨kps, rows, h1, h2, h3⟩ | ⟨h1, e, p, h2, h3, h4⟩
        · left
          refine ⟨kp :: kps, (⟨strOfNums kp.1, ts, (it.2 : Int)⟩ : S34) :: rows, by rw [h1]; rfl, ?_, ?_⟩
          · rw [List.map_cons, List.map_cons, h2]
            congr 1
            unfold rwB kpB
            rw [r2]
          · have := hgo h3
            rw [List.append_assoc] at this
            exact this
        · right
          exact ⟨by rw [h1]; rfl, e, p, h2, h3, hgo h4⟩
      · right
        rw [r1]
        refine ⟨rfl, e, p, r2, ⟨it, hmem, r3, r4⟩, hj (Ev.bind (g := fun k => dnsl_row.f k 1 (strOfNums it.1) (it.2 : Int)) r5 (Ev.congr (f := fun _ => some _) (fun k => ?_) (Ev.now _)))⟩
        show (if e = 0 then _ else _) = _
        rw [if_neg r2]
theorem Parse_its (b : List Int) (hb : b.length < 1000000) (hB : ∀ x ∈ b, 0 ≤ x ∧ x < 256) (its : List (List Int × Nat)) (hits : linesS 0 [] b = its.map tokL) {R} (K : Ev (fun k => dnsl_Parse.l0 k [] (its.map tokL) (its.length : Int) 0) R) : Ev (fun k => dnsl_Parse.f k b) R := by
  have hlines := Lines_run b hb hB
  rw [hits] at hlines
  refine Ev.congr (f := fun k => (scan_Lines.f k b).bind fun t145 => (dnsl_Parse.l0 k ([] : List (S34)) t145 (t145.length : Int) 0)) (fun k => ?_) (Ev.bind (g := fun k => scan_Lines.f k b) hlines ?_)
  · unfold dnsl_Parse.f scan_Long.f
    rw [if_neg (by omega), Option.bind_some]
    rfl
  · rw [List.length_map]; exact K
/-- What is read of any bytes. -/
theorem Parse_any (b : List Int) (hb : b.length < 100000) (hB : ∀ x ∈ b, 0 ≤ x ∧ x < 256) :
    (∃ (kps : List (List Int × List (List Int))) (rows : List S34), (∀ kp ∈ kps, OkR kp) ∧ sumL (kps.map rowB) ≤ b.length + 1 ∧ rows.map rwB = kps.map kpB ∧ Ev (fun k => dnsl_Parse.f k b) (rows, 0, 0)) ∨
    (∃ e p : Int, e ≠ 0 ∧ 0 ≤ p ∧ p ≤ b.length ∧ Ev (fun k => dnsl_Parse.f k b) ([], e, p)) := by
  obtain ⟨its, i1, i2, i3⟩ := lines_any b.length b 0 (Nat.le_refl _)
  have hsum : ∀ l : List (List Int), l.length ≤ sumL l := by
    intro l
    induction l with
    | nil => exact Nat.le_refl _
    | cons x l ih =>
      show l.length + 1 ≤ x.length + 1 + sumL l
      omega
  have hlen : its.length ≤ b.length + 1 := by
    have := hsum (its.map (·.1))
    rw [List.length_map] at this
    omega
  rcases Parse_loop its (by omega) (fun it hit => ⟨by have := (i3 it hit).1; omega, by have := (i3 it hit).1; omega, fun x hx => hB x ((i3 it hit).2 x hx)⟩) its 0 [] rfl (Nat.zero_le _) (Nat.le_refl _) with ⟨kps, rows, h1, h2, h3⟩ | ⟨h1, e, p, h2, ⟨it, h3, h4, h5⟩, h6⟩
  · left
    obtain ⟨k1, k2, k3⟩ := parseK_ok _ _ h1
    exact ⟨kps, rows, k1, by omega, h2, Parse_its b (by omega) hB its i1 h3⟩
  · right
    have := (i3 it h3).1
    exact ⟨e, p, h2, by omega, by omega, Parse_its b (by omega) hB its i1 h6⟩
/-- What is read of rows of lines. -/
theorem Parse_text (l : List (List Int)) (kps : List (List Int × List (List Int))) (hk : parseK l = some kps) (hl : ∀ L ∈ l, NoNl L ∧ ∀ x ∈ L, 0 ≤ x ∧ x < 256) (hs : sumL l < 100000) :
    ∃ rows : List S34, rows.map rwB = kps.map kpB ∧ Ev (fun k => dnsl_Parse.f k (textL l)) (rows, 0, 0) := by
  obtain ⟨its, i1, i2, i3⟩ := lines_text l 0 (fun L h => (hl L h).1)
  have ht := textL_len l
  have hsum : ∀ l : List (List Int), l.length ≤ sumL l := by
    intro l
    induction l with
    | nil => exact Nat.le_refl _
    | cons x l ih =>
      show l.length + 1 ≤ x.length + 1 + sumL l
      omega
  have hlen : its.length = l.length := by rw [← i2, List.length_map]
  have h0 := hsum l
  have hB : ∀ x ∈ textL l, 0 ≤ x ∧ x < 256 := by
    intro x hx
    unfold textL at hx
    obtain ⟨L, hL, hx⟩ := List.mem_flatten.1 hx
    obtain ⟨L', hL', rfl⟩ := List.mem_map.1 hL
    rcases List.mem_append.1 hx with hx | hx
    · exact (hl L' hL').2 x hx
    · rw [List.mem_singleton.1 hx]; decide
  rcases Parse_loop its (by omega) (fun it hit => ⟨by have := i3 it hit; omega, by have := i3 it hit; omega, (hl it.1 (by rw [← i2]; exact List.mem_map_of_mem hit)).2⟩) its 0 [] rfl (Nat.zero_le _) (Nat.le_refl _) with ⟨kps', rows, h1, h2, h3⟩ | ⟨h1, _⟩
  · rw [i2, hk] at h1
    injection h1 with h1
    subst h1
    exact ⟨rows, h2, Parse_its _ (by omega) hB its i1 h3⟩
  · rw [i2, hk] at h1
    cases h1
/-! ### rows told -/
theorem str_data (l : List Int) : (strOfNums l).data.toList = l.map fun n => UInt8.ofNat n.toNat := by simp [strOfNums]
theorem join_str : ∀ ps : List (List Int), Lib.join ((ps.map strOfNums).map (·.data.toList)) [44] = (strOfNums (joinC ps)).data.toList := by
  intro ps
  induction ps with
  | nil => rfl
  | cons p ps ih =>
    cases ps with
    | nil => exact Lib.join_one _ _
    | cons q qs =>
      show Lib.join ((strOfNums p).data.toList :: ((q :: qs).map strOfNums).map (·.data.toList)) [44] = (strOfNums (p ++ 44 :: joinC (q :: qs))).data.toList
      have e1 : (strOfNums (p ++ 44 :: joinC (q :: qs))).data.toList = (strOfNums p).data.toList ++ 44 :: (strOfNums (joinC (q :: qs))).data.toList := by
        rw [str_data, str_data, str_data, List.map_append, List.map_cons]
        rfl
      rw [e1, ← ih, Lib.join_cons]
      show _ ++ Lib.joinTail [44] ((strOfNums q).data.toList :: (qs.map strOfNums).map (·.data.toList)) = _ ++ 44 :: Lib.join ((strOfNums q).data.toList :: (qs.map strOfNums).map (·.data.toList)) [44]
      rw [Lib.join_cons]
      unfold Lib.joinTail
      rw [List.map_cons, List.flatten_cons]
      rfl
theorem Join_run (ps : List (List Int)) (h1 : ps.length < 1000000) (h2 : (joinC ps).length < 1000000) : strings_Join.f (ps.map strOfNums) (⟨#[44]⟩ : ByteArray) = some (strOfNums (joinC ps)) := by
  unfold strings_Join.f
  have e : (⟨#[44]⟩ : ByteArray).data.toList = [44] := rfl
  rw [e, join_str, if_pos (by rw [List.length_map]; omega), if_pos (by rw [str_data, List.length_map]; omega)]
theorem Print_l1 (acc : List Int) (x : List S34) (n i : Int) (r : S34) (kp : List Int × List (List Int)) (hr : rwB r = kpB kp) (hB : ∀ x ∈ rowB kp, 0 ≤ x ∧ x < 256) (hl : (rowB kp).length < 100000) (hps : kp.2.length < 100000) (ha : acc.length < 1000000) {R}
    (K : Ev (fun k => dnsl_Print.l0 k (acc ++ (rowB kp ++ [10])) x n (wrap64 (i + 1))) R) : ∀ (d j : Nat), j + d = r.f1.length → Ev (fun k => dnsl_Print.l1 k acc ((r.f1.take j).map (·.f1)) x n i r.f1 (r.f1.length : Int) (j : Int) r.f0 r.f1 r.f2) R := by
  injection hr with hr1 hr2
  have hlen : r.f1.length = kp.2.length := by have := congrArg List.length hr2; simpa using this
  intro d
  induction d with
  | zero =>
    intro j hj
    refine Ev.step (fun k => ?_) K
    have h2 : (rowB kp).length = kp.1.length + 1 + (joinC kp.2).length := by unfold rowB; rw [List.length_append, List.length_cons]; omega
    have hs0 := size_strOf kp.1
    have hs1 := size_strOf (joinC kp.2)
    simp only [dnsl_Print.l1]
    rw [if_neg (by omega), List.take_of_length_le (by omega), hr2, hr1]
    rw [if_pos (by omega), Join_run kp.2 (by omega) (by omega), Option.bind_some, if_pos (by omega), if_pos (by omega), if_pos (by omega)]
    congr 2
    rw [bytesOf_app, bytesOf_app, bytesOf_app, bytesOf_strOf kp.1 (fun x hx => hB x (List.mem_append_left _ hx)), bytesOf_strOf (joinC kp.2) (fun x hx => hB x (List.mem_append_right _ (List.mem_cons_of_mem _ hx)))]
    unfold rowB
    have e1 : bytesOf (⟨#[61]⟩ : ByteArray) = [61] := rfl
    have e2 : bytesOf (⟨#[10]⟩ : ByteArray) = [10] := rfl
    rw [e1, e2]
    simp
  | succ d ih =>
    intro j hj
    have hjl : j < r.f1.length := by omega
    refine Ev.step (fun k => ?_) (ih (j + 1) (by omega))
    simp only [dnsl_Print.l1]
    rw [if_pos (by omega), if_pos (by omega), if_pos (by omega), if_pos (by rw [List.length_map, List.length_take]; omega), wrap_n1 j (by omega)]
    congr 2
    rw [List.take_succ_eq_append_getElem hjl, List.map_append]
    congr 1
    show [(r.f1.getD j _).f1] = _
    rw [List.getD_eq_getElem?_getD, List.getElem?_eq_getElem hjl]
    rfl
theorem Print_run (x : List S34) (kps : List (List Int × List (List Int))) (hx : x.map rwB = kps.map kpB) (hok : ∀ kp ∈ kps, OkR kp) (hs : sumL (kps.map rowB) < 50000) : Ev (fun k => dnsl_Print.f k x) (textL (kps.map rowB)) := by
  have hlen : x.length = kps.length := by have := congrArg List.length hx; simpa using this
  have hrow : ∀ l : List (List Int × List (List Int)), ∀ kp ∈ l, (rowB kp).length + 1 ≤ sumL (l.map rowB) := by
    intro l
    induction l with
    | nil => intro kp h; cases h
    | cons a l ih =>
      intro kp h
      show _ ≤ (rowB a).length + 1 + sumL (l.map rowB)
      rcases List.mem_cons.1 h with rfl | h
      · omega
      · have := ih kp h; omega
  have hparts : ∀ ps : List (List Int), ps.length ≤ (joinC ps).length + 1 := by
    intro ps
    induction ps with
    | nil => simp
    | cons p ps ih =>
      cases ps with
      | nil => simp
      | cons q qs =>
        show _ ≤ (p ++ 44 :: joinC (q :: qs)).length + 1
        rw [List.length_append, List.length_cons]
        simp only [List.length_cons] at ih ⊢
        omega
  have hcount : ∀ l : List (List Int), l.length ≤ sumL l := by
    intro l
    induction l with
    | nil => exact Nat.le_refl _
    | cons x l ih =>
      show l.length + 1 ≤ x.length + 1 + sumL l
      omega
  have hc := hcount (kps.map rowB)
  rw [List.length_map] at hc
  have main : ∀ (d i : Nat), i + d = kps.length → Ev (fun k => dnsl_Print.l0 k (textL ((kps.take i).map rowB)) x (x.length : Int) (i : Int)) (textL (kps.map rowB)) := by
    intro d
    induction d with
    | zero =>
      intro i hi
      have hT := textL_len (kps.map rowB)
      have hB : ∀ y ∈ textL (kps.map rowB), 0 ≤ y ∧ y < 256 := by
        intro y hy
        unfold textL at hy
        obtain ⟨L, hL, hy⟩ := List.mem_flatten.1 hy
        obtain ⟨L', hL', rfl⟩ := List.mem_map.1 hL
        obtain ⟨kp, hkp, rfl⟩ := List.mem_map.1 hL'
        rcases List.mem_append.1 hy with hy | hy
        · have := rowB_mem kp (hok kp hkp) y hy; omega
        · rw [List.mem_singleton.1 hy]; decide
      refine Ev.step (f := fun _ => some _) (fun k => ?_) (Ev.now _)
      simp only [dnsl_Print.l0]
      rw [if_neg (by omega), List.take_of_length_le (by omega), if_pos (by rw [size_strOf]; omega), bytesOf_strOf _ hB]
    | succ d ih =>
      intro i hi
      have hil : i < kps.length := by omega
      have hix : i < x.length := by omega
      have hrw : rwB x[i] = kpB kps[i] := by
        have h1 : (x.map rwB)[i]? = (kps.map kpB)[i]? := by rw [hx]
        rw [List.getElem?_map, List.getElem?_map, List.getElem?_eq_getElem hix, List.getElem?_eq_getElem hil] at h1
        injection h1
      have hrd : rd_T34 x (i : Int) = x[i] := by
        show x.getD i _ = _
        rw [List.getD_eq_getElem?_getD, List.getElem?_eq_getElem hix]
        rfl
      have hm := List.getElem_mem hil
      have hr1 := hrow kps _ hm
      have hk := hok _ hm
      have hpr := hparts kps[i].2
      have hrl : (rowB kps[i]).length = kps[i].1.length + 1 + (joinC kps[i].2).length := by unfold rowB; rw [List.length_append, List.length_cons]; omega
      have hacc : (textL ((kps.take i).map rowB)).length ≤ sumL (kps.map rowB) := by
        have h2 : textL (kps.map rowB) = textL ((kps.take i).map rowB) ++ textL ((kps.drop i).map rowB) := by
          rw [← textL_app, ← List.map_append, List.take_append_drop]
        have h3 := textL_len (kps.map rowB)
        rw [h2, List.length_append] at h3
        omega
      have hnext : textL ((kps.take i).map rowB) ++ (rowB kps[i] ++ [10]) = textL ((kps.take (i + 1)).map rowB) := by
        rw [List.take_succ_eq_append_getElem hil, List.map_append, textL_app]
        simp [textL]
      have hK := ih (i + 1) (by omega)
      rw [← hnext, ← wrap_n1 i (by omega)] at hK
      have h1 := Print_l1 (textL ((kps.take i).map rowB)) x (x.length : Int) (i : Int) x[i] kps[i] hrw (fun y hy => by have := rowB_mem _ hk y hy; omega) (by omega) (by omega) (by omega) hK x[i].f1.length 0 (by omega)
      refine Ev.step (fun k => ?_) h1
      simp only [dnsl_Print.l0]
      rw [if_pos (by omega), if_pos (by omega), if_pos (by omega), hrd]
      rfl
  exact main kps.length 0 (by omega)
end Go.Proofs.Ytjieelpkdhfcgaa.DnslQ
