/- Rows of lines: what is read of any line, of several, and what is told of rows, in plain lists. -/
import Derived.Test.YtjieelpkdhfcgaaEx3
import Derived.Test.YtjieelpkdhfcgaaEx4
import Derived.Test.YtjieelpkdhfcgaaEx5
import Derived.Test.YtjieelpkdhfcgaaEx6
import Derived.Test.YtjieelpkdhfcgaaDnslE
import Derived.Test.YtjieelpkdhfcgaaPB
namespace Go.Proofs.Ytjieelpkdhfcgaa.DnslR
open Go Go.RowKit Go.Proofs.YtjieelpkdhfcgaaW.PrintWords Go.Proofs.Ytjieelpkdhfcgaa.PL Go.Proofs.Ytjieelpkdhfcgaa.E Go.Proofs.Ytjieelpkdhfcgaa.DnslS
set_option linter.unusedSimpArgs false
set_option linter.unusedVariables false
theorem drop_bytes (s : ByteArray) (n : Nat) (hn : n ≤ s.size) : bytesOf (s.extract n s.size) = (bytesOf s).drop n := by
  rw [bytesOf_extract, ← len_bytes, List.take_length]
theorem ext_size (s : ByteArray) (n : Nat) (hn : n ≤ s.size) : (s.extract n s.size).size = s.size - n := by
  rw [← len_bytes, drop_bytes s n hn, List.length_drop, len_bytes]
def joinC : List (List Int) → List Int
  | [] => []
  | [p] => p
  | p :: q :: ps => p ++ 44 :: joinC (q :: ps)
def splitC : List Int → List (List Int)
  | [] => [[]]
  | c :: l => if c = 44 then [] :: splitC l else match splitC l with
    | p :: ps => (c :: p) :: ps
    | [] => [[c]]
theorem split_ne (l : List Int) : splitC l ≠ [] := by
  cases l with
  | nil => simp [splitC]
  | cons c l =>
    unfold splitC
    split
    · simp
    · split <;> simp
theorem split_comma (l : List Int) : splitC (44 :: l) = [] :: splitC l := by simp [splitC]
theorem split_run : ∀ (p r : List Int), (∀ x ∈ p, x ≠ 44) → ∃ q qs, splitC r = q :: qs ∧ splitC (p ++ r) = (p ++ q) :: qs := by
  intro p
  induction p with
  | nil =>
    intro r h
    cases hs : splitC r with
    | nil => exact absurd hs (split_ne r)
    | cons q qs => exact ⟨q, qs, rfl, hs⟩
  | cons c p ih =>
    intro r h
    obtain ⟨q, qs, h1, h2⟩ := ih r (fun x hx => h x (List.mem_cons_of_mem _ hx))
    refine ⟨q, qs, h1, ?_⟩
    have hc := h c List.mem_cons_self
    show splitC (c :: (p ++ r)) = _
    unfold splitC
    rw [if_neg hc, h2]
    rfl
theorem split_one (p : List Int) (h : ∀ x ∈ p, x ≠ 44) : splitC p = [p] := by
  obtain ⟨q, qs, h1, h2⟩ := split_run p [] h
  simp only [splitC, List.cons.injEq] at h1
  rw [List.append_nil, ← h1.1, ← h1.2, List.append_nil] at h2
  exact h2
theorem split_app (p r : List Int) (h : ∀ x ∈ p, x ≠ 44) : splitC (p ++ 44 :: r) = p :: splitC r := by
  obtain ⟨q, qs, h1, h2⟩ := split_run p (44 :: r) h
  rw [split_comma, List.cons.injEq] at h1
  rw [h2, ← h1.1, ← h1.2, List.append_nil]
theorem join_split : ∀ l : List Int, joinC (splitC l) = l := by
  intro l
  induction l with
  | nil => rfl
  | cons c l ih =>
    by_cases hc : c = 44
    · subst hc
      rw [split_comma]
      cases hs : splitC l with
      | nil => exact absurd hs (split_ne l)
      | cons q qs =>
        rw [hs] at ih
        show [] ++ 44 :: joinC (q :: qs) = _
        rw [ih]; rfl
    · unfold splitC
      rw [if_neg hc]
      cases hs : splitC l with
      | nil => exact absurd hs (split_ne l)
      | cons q qs =>
        rw [hs] at ih
        cases qs with
        | nil =>
          show c :: q = _
          have : q = l := ih
          rw [this]
        | cons u us =>
          show (c :: q) ++ 44 :: joinC (u :: us) = _
          have : q ++ 44 :: joinC (u :: us) = l := ih
          rw [List.cons_append, this]
theorem split_join : ∀ ps : List (List Int), ps ≠ [] → (∀ p ∈ ps, ∀ x ∈ p, x ≠ 44) → splitC (joinC ps) = ps := by
  intro ps
  induction ps with
  | nil => intro h; exact absurd rfl h
  | cons p ps ih =>
    intro _ h
    cases ps with
    | nil => exact split_one p (h p List.mem_cons_self)
    | cons q qs =>
      show splitC (p ++ 44 :: joinC (q :: qs)) = _
      rw [split_app p _ (h p List.mem_cons_self), ih (by simp) (fun p hp => h p (List.mem_cons_of_mem _ hp))]
def okP (p : List Int) : Bool := p.all isP && decide (p.length ≤ 255)
theorem isP_ne {x : Int} (h : isP x = true) : x ≠ 44 ∧ 32 ≤ x ∧ x ≤ 126 := by
  simp only [isP, Bool.and_eq_true, Bool.not_eq_true', beq_eq_false_iff_ne, decide_eq_true_eq] at h
  exact ⟨h.1.1, h.1.2, h.2⟩
theorem isK_ne {x : Int} (h : isK x = true) : x ≠ 61 ∧ x ≠ 35 ∧ x ≠ 10 ∧ x ≠ 13 ∧ 0 ≤ x ∧ x < 256 := by
  simp only [isK, Bool.or_eq_true, Bool.and_eq_true, decide_eq_true_eq, beq_iff_eq] at h
  omega
theorem okP_all {p : List Int} (h : okP p = true) : (∀ x ∈ p, isP x = true) ∧ p.length ≤ 255 := by
  simpa [okP] using h
theorem partS_any (p : List Int) (c : Int) (r : List Int) (n : Nat) (hp : ∀ x ∈ p, isP x = true) (hc : isP c ≠ true) : partS (p ++ c :: r) n = (((n + p.length : Nat) : Int), decide (c = 44)) := by
  rw [partS_ok p _ n hp]
  by_cases h : c = 44
  · subst h
    simp [partS]
  · unfold partS
    rw [if_neg h, if_pos]
    · simp [h]
    · by_cases h1 : 32 ≤ c
      · by_cases h2 : c ≤ 126
        · exact absurd (by simp [isP, h, h1, h2]) hc
        · omega
      · omega
/-- What the loop over a row's parts comes to. -/
def rowF (s : ByteArray) (n : Nat) (kd : Int) (tx : ByteArray) (at1 : Int) (kk : ByteArray) (out : List S36) (at0 : Int) : Nat → Option (ByteArray × (List (S36)) × Int × Int × Int) := fun k => (dnsl_part.f k (s.extract n s.size)).bind fun bt => (if bt.2 = true then (if bt.1 > 255 then (some ((⟨#[]⟩ : ByteArray), ([] : List (S36)), 0, 2, wrap64 (at1 + (n : Int)))) else (if (n : Int) ≤ (wrap64 ((n : Int) + bt.1)) then (if (wrap64 ((n : Int) + bt.1)) ≤ (s.size : Int) then (if out.length < 4398046511104 then ((some (out ++ [(⟨6, s.extract ((n : Int)).toNat ((wrap64 ((n : Int) + bt.1)) : Int).toNat, wrap64 (at1 + (n : Int))⟩ : S36)] : List (S36))).bind fun y137 => (if (wrap64 ((n : Int) + (wrap64 (bt.1 + 1)))) > (s.size : Int) then (some (kk, y137, at0, 0, 0)) else (dnsl_row.l0 k s (wrap64 ((n : Int) + (wrap64 (bt.1 + 1)))) kd tx at1 kk y137 at0))) else (none)) else (none)) else (none))) else (some ((⟨#[]⟩ : ByteArray), ([] : List (S36)), 0, 1, wrap64 ((wrap64 (at1 + (n : Int))) + bt.1))))
theorem row_open (s : ByteArray) (n : Nat) (kd : Int) (tx : ByteArray) (at1 : Int) (kk : ByteArray) (out : List S36) (at0 : Int) (hn : n ≤ s.size) {r} (h : Ev (rowF s n kd tx at1 kk out at0) r) : Ev (fun k => dnsl_row.l0 k s (n : Int) kd tx at1 kk out at0) r := by
  refine Ev.step (fun k => ?_) h
  unfold rowF
  simp only [dnsl_row.l0]
  rw [if_pos (by omega), if_pos (by omega), Int.toNat_natCast]
theorem row_loop (s : ByteArray) (hs : s.size < 1000000) (kd : Int) (tx kk : ByteArray) (at1 at0 : Int) (ha : 0 ≤ at1) (ha' : at1 < 2000000) : ∀ (d n : Nat) (rest : List Int) (out : List S36), (bytesOf s).drop n = rest → rest.length ≤ d → n ≤ s.size → out.length ≤ n →
    ((splitC rest).all okP = true ∧ ∃ ts : List S36, ts.map (·.f1) = (splitC rest).map strOfNums ∧ Ev (fun k => dnsl_row.l0 k s (n : Int) kd tx at1 kk out at0) (kk, out ++ ts, at0, 0, 0)) ∨
    ((splitC rest).all okP = false ∧ ∃ e p : Int, e ≠ 0 ∧ at1 ≤ p ∧ p ≤ at1 + s.size ∧ Ev (fun k => dnsl_row.l0 k s (n : Int) kd tx at1 kk out at0) ((⟨#[]⟩ : ByteArray), ([] : List S36), 0, e, p)) := by
  intro d
  induction d with
  | zero =>
    intro n rest out hd hr hn ho
    obtain rfl : rest = [] := List.length_eq_zero_iff.mp (by omega)
    left
    have hlb := len_bytes s
    have hn' := dn hd (by omega)
    refine ⟨rfl, [⟨6, s.extract n (n + 0), wrap64 (at1 + (n : Int))⟩], ?_, row_open s n kd tx at1 kk out at0 hn ?_⟩
    · show [s.extract n (n + 0)] = [strOfNums []]
      rw [extract_strOf, List.drop_take, hd]
      simp
    · have hpart := part_run (s.extract n s.size) (by rw [ext_size s n hn]; omega)
      rw [drop_bytes s n hn, hd, show partS [] 0 = (((0 : Nat) : Int), true) from rfl] at hpart
      refine Ev.bind (g := fun k => dnsl_part.f k (s.extract n s.size)) hpart (Ev.congr (f := fun _ => some _) (fun k => ?_) (Ev.now _))
      show (if true = true then (if ((0 : Nat) : Int) > 255 then _ else if (n : Int) ≤ wrap64 ((n : Int) + ((0 : Nat) : Int)) then _ else _) else _) = _
      rw [if_pos rfl, if_neg (by omega), wrap_nn n 0 (by omega), if_pos (by omega), if_pos (by omega), if_pos (by omega), Option.bind_some, wrap_n1 0 (by omega), wrap_nn n 1 (by omega), if_pos (by omega), Int.toNat_natCast, Int.toNat_natCast]
  | succ d ih =>
    intro n rest out hd hr hn ho
    have hlb := len_bytes s
    have hdl := congrArg List.length hd
    simp only [List.length_drop] at hdl
    have hpart := part_run (s.extract n s.size) (by rw [ext_size s n hn]; omega)
    rw [drop_bytes s n hn, hd] at hpart
    have hsplit : rest = rest.takeWhile isP ++ rest.dropWhile isP := (List.takeWhile_append_dropWhile).symm
    have hp : ∀ x ∈ rest.takeWhile isP, isP x = true := fun x hx => List.all_eq_true.1 (List.all_takeWhile (p := isP) (l := rest)) x hx
    have hp44 : ∀ x ∈ rest.takeWhile isP, x ≠ 44 := fun x hx => (isP_ne (hp x hx)).1
    have htw := tw_len (p := isP) rest
    have hcut : s.extract n (n + (rest.takeWhile isP).length) = strOfNums (rest.takeWhile isP) := by
      rw [extract_strOf, List.drop_take, hd, show n + (rest.takeWhile isP).length - n = (rest.takeWhile isP).length by omega, take_tw]
    have hall : (rest.takeWhile isP).all isP = true := by rw [List.all_eq_true]; exact hp
    generalize hq : rest.takeWhile isP = p at *
    cases hdw : rest.dropWhile isP with
    | nil =>
      rw [hdw, List.append_nil] at hsplit
      rw [hdw] at htw
      simp only [List.length_nil, Nat.add_zero] at htw
      have hS : splitC rest = [p] := by rw [hsplit]; exact split_one p hp44
      rw [hsplit] at hpart
      have hP := partS_ok p [] 0 hp
      rw [List.append_nil] at hP
      rw [hP, show partS [] (0 + p.length) = ((p.length : Int), true) by simp [partS]] at hpart
      by_cases h255 : p.length ≤ 255
      · left
        refine ⟨by rw [hS]; simp [okP, hall, h255], [⟨6, strOfNums p, wrap64 (at1 + (n : Int))⟩], by rw [hS]; rfl, row_open s n kd tx at1 kk out at0 hn ?_⟩
        refine Ev.bind (g := fun k => dnsl_part.f k (s.extract n s.size)) hpart (Ev.congr (f := fun _ => some _) (fun k => ?_) (Ev.now _))
        show (if true = true then (if (p.length : Int) > 255 then _ else if (n : Int) ≤ wrap64 ((n : Int) + (p.length : Int)) then _ else _) else _) = _
        rw [if_pos rfl, if_neg (by omega), wrap_nn n p.length (by omega), if_pos (by omega), if_pos (by omega), if_pos (by omega), Option.bind_some, wrap_n1 p.length (by omega), wrap_nn n (p.length + 1) (by omega), if_pos (by omega), Int.toNat_natCast, Int.toNat_natCast, hcut]
      · right
        refine ⟨by rw [hS]; simp [okP, h255], 2, at1 + (n : Int), by decide, by omega, by omega, row_open s n kd tx at1 kk out at0 hn ?_⟩
        refine Ev.bind (g := fun k => dnsl_part.f k (s.extract n s.size)) hpart (Ev.congr (f := fun _ => some _) (fun k => ?_) (Ev.now _))
        show (if true = true then (if (p.length : Int) > 255 then _ else _) else _) = _
        rw [if_pos rfl, if_pos (by omega), wrap_in (by omega) (by omega)]
    | cons c r =>
      rw [hdw] at hsplit htw
      simp only [List.length_cons] at htw
      have hc : isP c ≠ true := by
        have := List.head_dropWhile_not (p := isP) (l := rest) (by rw [hdw]; simp)
        simp only [hdw, List.head_cons] at this
        simp [this]
      rw [hsplit, partS_any p c r 0 hp hc] at hpart
      simp only [Nat.zero_add] at hpart
      by_cases h44 : c = 44
      · subst h44
        have hS : splitC rest = p :: splitC r := by rw [hsplit]; exact split_app p r hp44
        rw [decide_eq_true rfl] at hpart
        by_cases h255 : p.length ≤ 255
        · have hd' : (bytesOf s).drop (n + p.length + 1) = r := by
            rw [show n + p.length + 1 = n + (p.length + 1) by omega, ← List.drop_drop, hd, hsplit, ← List.drop_drop, List.drop_left]
            rfl
          have hstep : ∀ {R}, Ev (fun k => dnsl_row.l0 k s ((n + p.length + 1 : Nat) : Int) kd tx at1 kk (out ++ [(⟨6, strOfNums p, wrap64 (at1 + (n : Int))⟩ : S36)]) at0) R → Ev (fun k => dnsl_row.l0 k s (n : Int) kd tx at1 kk out at0) R := by
            intro R K
            refine row_open s n kd tx at1 kk out at0 hn (Ev.bind (g := fun k => dnsl_part.f k (s.extract n s.size)) hpart (Ev.congr (fun k => ?_) K))
            show (if true = true then (if (p.length : Int) > 255 then _ else if (n : Int) ≤ wrap64 ((n : Int) + (p.length : Int)) then _ else _) else _) = _
            rw [if_pos rfl, if_neg (by omega), wrap_nn n p.length (by omega), if_pos (by omega), if_pos (by omega), if_pos (by omega), Option.bind_some, wrap_n1 p.length (by omega), wrap_nn n (p.length + 1) (by omega), if_neg (by omega), Int.toNat_natCast, Int.toNat_natCast, hcut, ← Nat.add_assoc]
          have hok : okP p = true := by simp [okP, hall, h255]
          rcases ih (n + p.length + 1) r (out ++ [(⟨6, strOfNums p, wrap64 (at1 + (n : Int))⟩ : S36)]) hd' (by omega) (by omega) (by rw [List.length_append, List.length_singleton]; omega) with ⟨h1, ts, h2, h3⟩ | ⟨h1, e, q, h2, h3, h4, h5⟩
          · left
            refine ⟨by rw [hS, List.all_cons, hok, h1]; rfl, ⟨6, strOfNums p, wrap64 (at1 + (n : Int))⟩ :: ts, by rw [hS, List.map_cons, List.map_cons, h2], ?_⟩
            have := hstep h3
            rw [List.append_assoc] at this
            exact this
          · right
            exact ⟨by rw [hS, List.all_cons, h1, Bool.and_false], e, q, h2, h3, h4, hstep h5⟩
        · right
          refine ⟨by rw [hS, List.all_cons]; simp [okP, h255], 2, at1 + (n : Int), by decide, by omega, by omega, row_open s n kd tx at1 kk out at0 hn ?_⟩
          refine Ev.bind (g := fun k => dnsl_part.f k (s.extract n s.size)) hpart (Ev.congr (f := fun _ => some _) (fun k => ?_) (Ev.now _))
          show (if true = true then (if (p.length : Int) > 255 then _ else _) else _) = _
          rw [if_pos rfl, if_pos (by omega), wrap_in (by omega) (by omega)]
      · right
        rw [decide_eq_false h44] at hpart
        refine ⟨?_, 1, at1 + (n : Int) + (p.length : Int), by decide, by omega, by omega, row_open s n kd tx at1 kk out at0 hn ?_⟩
        · obtain ⟨q, qs, h1, h2⟩ := split_run (p ++ [c]) r (fun x hx => by
            rcases List.mem_append.1 hx with hx | hx
            · exact hp44 x hx
            · rw [List.mem_singleton.1 hx]; exact h44)
          rw [List.append_assoc, List.singleton_append, ← hsplit] at h2
          rw [h2, List.all_cons]
          have : okP (p ++ [c] ++ q) = false := by
            simp [okP, hc]
          rw [this, Bool.false_and]
        · refine Ev.bind (g := fun k => dnsl_part.f k (s.extract n s.size)) hpart (Ev.congr (f := fun _ => some _) (fun k => ?_) (Ev.now _))
          show (if false = true then _ else some (_, _, _, _, wrap64 (wrap64 (at1 + (n : Int)) + (p.length : Int)))) = _
          rw [if_neg (by simp), wrap_in (x := at1 + (n : Int)) (by omega) (by omega), wrap_in (by omega) (by omega)]
/-! ### rows -/
def rowS (L : List Int) : Option (List Int × List (List Int)) := match L.dropWhile isK with
  | 61 :: r => if L.takeWhile isK = [] then none else if (splitC r).all okP = true then some (L.takeWhile isK, splitC r) else none
  | _ => none
def rowB (kp : List Int × List (List Int)) : List Int := kp.1 ++ 61 :: joinC kp.2
def OkR (kp : List Int × List (List Int)) : Prop := kp.1 ≠ [] ∧ (∀ x ∈ kp.1, isK x = true) ∧ kp.2 ≠ [] ∧ ∀ p ∈ kp.2, okP p = true
theorem rowS_back (kp : List Int × List (List Int)) (h : OkR kp) : rowS (rowB kp) = some kp := by
  obtain ⟨h1, h2, h3, h4⟩ := h
  unfold rowS rowB
  have hd : (kp.1 ++ 61 :: joinC kp.2).dropWhile isK = 61 :: joinC kp.2 := by
    rw [List.dropWhile_append_of_pos h2]; rfl
  have ht : (kp.1 ++ 61 :: joinC kp.2).takeWhile isK = kp.1 := by
    rw [List.takeWhile_append_of_pos h2]; show kp.1 ++ [] = _; rw [List.append_nil]
  rw [hd, ht]
  simp only [if_neg h1]
  rw [split_join kp.2 h3 (fun p hp x hx => (isP_ne ((okP_all (h4 p hp)).1 x hx)).1), if_pos (List.all_eq_true.2 h4)]
theorem rowS_ok (L : List Int) (kp : List Int × List (List Int)) (h : rowS L = some kp) : L = rowB kp ∧ OkR kp := by
  unfold rowS at h
  have hL := (List.takeWhile_append_dropWhile (p := isK) (l := L)).symm
  split at h
  · rename_i r hr
    by_cases h1 : L.takeWhile isK = []
    · rw [if_pos h1] at h; cases h
    · rw [if_neg h1] at h
      by_cases h2 : (splitC r).all okP = true
      · rw [if_pos h2] at h
        injection h with h
        subst h
        refine ⟨?_, h1, fun x hx => List.all_eq_true.1 (List.all_takeWhile (p := isK) (l := L)) x hx, split_ne r, List.all_eq_true.1 h2⟩
        unfold rowB
        rw [join_split, ← hr]
        exact hL
      · rw [if_neg h2] at h; cases h
  · cases h
theorem row_any (L : List Int) (hL : L.length < 1000000) (hB : ∀ x ∈ L, 0 ≤ x ∧ x < 256) (kd at1 : Int) (ha : 0 ≤ at1) (ha' : at1 < 2000000) :
    (∃ kp ts, rowS L = some kp ∧ ts.map (·.f1) = kp.2.map strOfNums ∧ Ev (fun k => dnsl_row.f k kd (strOfNums L) at1) (strOfNums kp.1, ts, at1, 0, 0)) ∨
    (rowS L = none ∧ ∃ e p : Int, e ≠ 0 ∧ at1 ≤ p ∧ p ≤ at1 + L.length ∧ Ev (fun k => dnsl_row.f k kd (strOfNums L) at1) ((⟨#[]⟩ : ByteArray), ([] : List S36), 0, e, p)) := by
  have hsz := size_strOf L
  have hbs := bytesOf_strOf L hB
  have hkey := key_run (strOfNums L) (by omega) L 0 (by rw [hbs]; rfl) (Nat.zero_le _)
  rw [Nat.zero_add] at hkey
  have htw := tw_len (p := isK) L
  have hdt := drop_tw (p := isK) L
  have htt := take_tw (p := isK) L
  have hopen : ∀ {R}, Ev (fun k => (if ((L.takeWhile isK).length : Int) = 0 then (dnsl_row.j0 k (strOfNums L) ((L.takeWhile isK).length : Int) true kd (strOfNums L) at1) else (if ((L.takeWhile isK).length : Int) = ((strOfNums L).size : Int) then (dnsl_row.j0 k (strOfNums L) ((L.takeWhile isK).length : Int) true kd (strOfNums L) at1) else (if 0 ≤ ((L.takeWhile isK).length : Int) then (if ((L.takeWhile isK).length : Int) < ((strOfNums L).size : Int) then (dnsl_row.j0 k (strOfNums L) ((L.takeWhile isK).length : Int) ((bt (strOfNums L) ((L.takeWhile isK).length : Int)) != 61) kd (strOfNums L) at1) else (none)) else (none))))) R → Ev (fun k => dnsl_row.f k kd (strOfNums L) at1) R := by
    intro R K
    exact Ev.bind (g := fun k => dnsl_key.l0 k (strOfNums L) ((0 : Nat) : Int)) hkey K
  have herr : Ev (fun k => dnsl_row.j0 k (strOfNums L) ((L.takeWhile isK).length : Int) true kd (strOfNums L) at1) ((⟨#[]⟩ : ByteArray), ([] : List S36), 0, 1, at1 + ((L.takeWhile isK).length : Int)) := by
    refine Ev.step (f := fun _ => some _) (fun k => ?_) (Ev.now _)
    simp only [dnsl_row.j0]
    rw [if_pos trivial, wrap_in (by omega) (by omega)]
  by_cases h0 : L.takeWhile isK = []
  · right
    refine ⟨?_, 1, at1 + ((L.takeWhile isK).length : Int), by decide, by omega, by omega, hopen (Ev.congr (fun k => ?_) herr)⟩
    · unfold rowS
      split
      · rw [if_pos h0]
      · rfl
    · rw [if_pos (by rw [h0]; rfl)]
  · have hpos : 0 < (L.takeWhile isK).length := List.length_pos_iff.2 h0
    cases hdw : L.dropWhile isK with
    | nil =>
      right
      rw [hdw] at htw
      simp only [List.length_nil] at htw
      refine ⟨by unfold rowS; rw [hdw], 1, at1 + ((L.takeWhile isK).length : Int), by decide, by omega, by omega, hopen (Ev.congr (fun k => ?_) herr)⟩
      rw [if_neg (by omega), if_pos (by omega)]
    | cons c r =>
      rw [hdw] at htw hdt
      simp only [List.length_cons] at htw
      have hd : (bytesOf (strOfNums L)).drop (L.takeWhile isK).length = c :: r := by rw [hbs]; exact hdt
      obtain ⟨_, hrd, hd1, _⟩ := dc hd
      have hbt : bt (strOfNums L) ((L.takeWhile isK).length : Int) = c := by rw [bt_rd]; exact hrd
      by_cases hc : c = 61
      · subst hc
        have hK : (strOfNums L).extract 0 (L.takeWhile isK).length = strOfNums (L.takeWhile isK) := by
          rw [extract_strOf, hbs, List.drop_zero, htt]
        have hj : ∀ {R}, Ev (fun k => dnsl_row.l0 k (strOfNums L) (((L.takeWhile isK).length + 1 : Nat) : Int) kd (strOfNums L) at1 (strOfNums (L.takeWhile isK)) [] at1) R → Ev (fun k => dnsl_row.f k kd (strOfNums L) at1) R := by
          intro R K
          refine hopen (Ev.congr (f := fun k => dnsl_row.j0 k (strOfNums L) ((L.takeWhile isK).length : Int) false kd (strOfNums L) at1) (fun k => ?_) (Ev.step (fun k => ?_) K))
          · rw [if_neg (by omega), if_neg (by omega), if_pos (by omega), if_pos (by omega), hbt]
            rfl
          · simp only [dnsl_row.j0]
            rw [if_neg (by simp), if_pos (by omega), if_pos (by omega), wrap_n1 _ (by omega), Int.toNat_natCast, hK]
        rcases row_loop (strOfNums L) (by omega) kd (strOfNums L) (strOfNums (L.takeWhile isK)) at1 at1 ha ha' r.length ((L.takeWhile isK).length + 1) r [] hd1 (Nat.le_refl _) (by omega) (Nat.zero_le _) with ⟨h1, ts, h2, h3⟩ | ⟨h1, e, q, h2, h3, h4, h5⟩
        · left
          refine ⟨(L.takeWhile isK, splitC r), ts, ?_, h2, hj h3⟩
          unfold rowS
          rw [hdw]
          simp only [if_neg h0]
          rw [if_pos h1]
        · right
          refine ⟨?_, e, q, h2, h3, by omega, hj h5⟩
          unfold rowS
          rw [hdw]
          simp only [if_neg h0]
          rw [if_neg (by rw [h1]; simp)]
      · right
        refine ⟨?_, 1, at1 + ((L.takeWhile isK).length : Int), by decide, by omega, by omega, hopen (Ev.congr (fun k => ?_) herr)⟩
        · unfold rowS
          rw [hdw]
          split
          · rename_i h
            injection h with h
            exact absurd h hc
          · rfl
        · rw [if_neg (by omega), if_neg (by omega), if_pos (by omega), if_pos (by omega), hbt]
          have : (c != 61) = true := by simpa using hc
          rw [this]
end Go.Proofs.Ytjieelpkdhfcgaa.DnslR
