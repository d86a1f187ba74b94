/- Records, in plain lists: a field, plain or in quotes, a record, records, one behind the other. -/
import Derived.Test.YtcgchblljhbdaaaDoorCx3
import Derived.Test.YtcgchblljhbdaaaDoorCx4
import Derived.Test.YtcgchblljhbdaaaDoorCx5
import Derived.Test.YtcgchblljhbdaaaDoorCsvS
namespace Go.Proofs.YtcgchblljhbdaaaDoor.CsvP
open Go Go.RowKit Go.Proofs.YtcgchblljhbdaaaDoorW.PrintWords Go.Proofs.YtcgchblljhbdaaaDoorW.PrintMore Go.Proofs.YtcgchblljhbdaaaDoor.PL Go.Proofs.YtcgchblljhbdaaaDoor.PB Go.Proofs.YtcgchblljhbdaaaDoor.C Go.Proofs.YtcgchblljhbdaaaDoor.CsvS
set_option linter.unusedSimpArgs false
set_option linter.unusedVariables false
def quo : List Int → List Int
  | [] => []
  | c :: l => if c = 34 then 34 :: 34 :: quo l else c :: quo l
/-- A field's text as it stands, and what it is. -/
def Tok (t f : List Int) : Prop := f.length ≤ 255 ∧ (t = f ∧ f.all isPl = true ∨ t = 34 :: (quo f ++ [34]) ∧ ∀ c ∈ f, isPl c = true ∨ isE c = true ∨ c = 34)
def sep (l : List Int) : Prop := l = [] ∨ ∃ c l', l = c :: l' ∧ isE c = true
theorem isE_iff (c : Int) : isE c = true ↔ c = 44 ∨ c = 10 ∨ c = 13 := by simp [isE, or_assoc]
theorem isE_pl {c : Int} (h : isE c = true) : isPl c = false := by
  rcases (isE_iff c).1 h with rfl | rfl | rfl <;> decide
theorem pl_34 {c : Int} (h : isPl c = true) : c ≠ 34 := by
  intro e
  subst e
  exact absurd h (by decide)
theorem sep_34 {l : List Int} (h : sep l) : ∀ l', l ≠ 34 :: l' := by
  intro l' e
  rcases h with h | ⟨c, l2, h, hc⟩
  · rw [h] at e; cases e
  · rw [h] at e
    injection e with e1 e2
    subst e1
    exact absurd hc (by decide)
theorem tw_sep {tail : List Int} (h : sep tail) : ∀ f : List Int, f.all isPl = true → (f ++ tail).takeWhile isPl = f ∧ (f ++ tail).dropWhile isPl = tail := by
  intro f
  induction f with
  | nil =>
    intro _
    rcases h with h | ⟨c, l2, h, hc⟩
    · subst h; exact ⟨rfl, rfl⟩
    · subst h
      have := isE_pl hc
      simp [List.takeWhile_cons, List.dropWhile_cons, this]
  | cons c f ih =>
    intro hf
    rw [List.all_cons, Bool.and_eq_true] at hf
    obtain ⟨i1, i2⟩ := ih hf.2
    rw [List.cons_append, List.takeWhile_cons, if_pos hf.1, List.dropWhile_cons, if_pos hf.1, i1, i2]
    exact ⟨rfl, rfl⟩
theorem quotR_quo (L : Nat) (tail : List Int) (h : sep tail) : ∀ (f acc : List Int) (n : Nat), (∀ c ∈ f, isPl c = true ∨ isE c = true ∨ c = 34) → quotR L acc (quo f ++ 34 :: tail) n = (strOfNums (acc ++ f), ((n + (quo f).length + 1 : Nat) : Int), 0, 0) := by
  intro f
  induction f with
  | nil =>
    intro acc n _
    show quotR L acc (34 :: tail) n = _
    rw [quotR_q1 _ _ _ _ (sep_34 h), List.append_nil]
    rfl
  | cons c f ih =>
    intro acc n hf
    have hf' : ∀ x ∈ f, isPl x = true ∨ isE x = true ∨ x = 34 := fun x hx => hf x (List.mem_cons_of_mem _ hx)
    by_cases hc : c = 34
    · subst hc
      have e : quo (34 :: f) = 34 :: 34 :: quo f := by simp [quo]
      rw [e]
      show quotR L acc (34 :: 34 :: (quo f ++ 34 :: tail)) n = _
      rw [quotR_q2, ih _ _ hf']
      have e1 : acc ++ [34] ++ f = acc ++ 34 :: f := by simp
      have e2 : n + 2 + (quo f).length + 1 = n + (34 :: 34 :: quo f).length + 1 := by simp only [List.length_cons]; omega
      rw [e1, e2]
    · have e : quo (c :: f) = c :: quo f := by simp [quo, hc]
      have hcc : isPl c = true ∨ isE c = true := by
        rcases hf c (List.mem_cons_self ..) with h1 | h1 | h1
        · exact .inl h1
        · exact .inr h1
        · exact absurd h1 hc
      rw [e]
      show quotR L acc (c :: (quo f ++ 34 :: tail)) n = _
      rw [quotR_c _ _ _ _ _ hc, if_pos hcc, ih _ _ hf']
      have e1 : acc ++ [c] ++ f = acc ++ c :: f := by simp
      have e2 : n + 1 + (quo f).length + 1 = n + (c :: quo f).length + 1 := by simp only [List.length_cons]; omega
      rw [e1, e2]
theorem drop_len {b l : List Int} {p : Nat} (hp : p ≤ b.length) (h : b.drop p = l) : b.length = p + l.length := by
  have := congrArg List.length h
  rw [List.length_drop] at this
  omega
theorem drop_app {b t l : List Int} {p : Nat} (h : b.drop p = t ++ l) : b.drop (p + t.length) = l := by
  rw [← List.drop_drop, h, List.drop_left']
  rfl
theorem take_app {b t l : List Int} {p : Nat} (h : b.drop p = t ++ l) : (b.take (p + t.length)).drop p = t := by
  rw [List.drop_take, h, show p + t.length - p = t.length by omega, List.take_left']
  rfl
theorem field_tok (b : List Int) (hb : b.length ≤ 1000000) (hB : ∀ x ∈ b, 0 ≤ x ∧ x < 256) (p : Nat) (t f tail : List Int) (hp : p ≤ b.length) (hT : Tok t f) (h : b.drop p = t ++ tail) (hs : sep tail) :
    Ev (fun k => csvr_field.f k b (p : Int)) (5, strOfNums f, (p : Int), ((p + t.length : Nat) : Int), 0, 0) := by
  obtain ⟨hlen, hT⟩ := hT
  have hsz : (strOfNums f).size = f.length := size_strOf f
  have hE : ∀ q : Int, fieldE (p : Int) (strOfNums f, q, 0, 0) = (5, strOfNums f, (p : Int), q, 0, 0) := by
    intro q
    unfold fieldE
    simp only [hsz]
    rw [if_pos trivial, if_neg (by omega)]
  rcases hT with ⟨rfl, hf⟩ | ⟨ht, hf⟩
  · have hq : ∀ l', t ++ tail ≠ 34 :: l' := by
      intro l' e
      cases t with
      | nil => exact sep_34 hs l' e
      | cons c t =>
        rw [List.all_cons, Bool.and_eq_true] at hf
        injection e with e1 e2
        exact pl_34 hf.1 e1
    have := field_o b hb hB p hp _ h hq
    obtain ⟨t1, t2⟩ := tw_sep hs t hf
    unfold openR at this
    rw [t1, t2, take_app h] at this
    rcases hs with hs | ⟨c, l2, hs, hc⟩
    · subst hs
      rw [← hE]
      exact this
    · subst hs
      simp only [hc, if_true] at this
      rw [← hE]
      exact this
  · subst ht
    have h' : b.drop p = 34 :: (quo f ++ 34 :: tail) := by rw [h]; simp
    have := field_q b hb hB p _ h'
    rw [quotR_quo _ _ hs _ _ _ hf, List.nil_append, hE] at this
    have e : p + 1 + (quo f).length + 1 = p + (34 :: (quo f ++ [34])).length := by simp only [List.length_cons, List.length_append, List.length_nil]; omega
    rw [e] at this
    exact this
/-- What a record ends with, and what may be behind it. -/
def End (e rest : List Int) : Prop := e = [10] ∨ e = [13, 10] ∨ e = [] ∧ rest = []
theorem end_sep {e rest : List Int} (h : End e rest) : sep (e ++ rest) := by
  rcases h with rfl | rfl | ⟨rfl, rfl⟩
  · exact .inr ⟨10, rest, rfl, by decide⟩
  · exact .inr ⟨13, 10 :: rest, rfl, by decide⟩
  · exact .inl rfl
theorem end_44 {e rest : List Int} (h : End e rest) : ∀ l, e ++ rest ≠ 44 :: l := by
  intro l z
  rcases h with rfl | rfl | ⟨rfl, rfl⟩
  · injection z with z1 z2; exact absurd z1 (by decide)
  · injection z with z1 z2; exact absurd z1 (by decide)
  · cases z
theorem end_f (b : List Int) (hb : b.length ≤ 1000000) (q : Nat) (hq : q ≤ b.length) (e rest : List Int) (he : End e rest) (h : b.drop q = e ++ rest) : csvr_end.f b (q : Int) = some (((q + e.length : Nat) : Int), true) := by
  unfold csvr_end.f
  rcases he with rfl | rfl | ⟨rfl, rfl⟩
  · obtain ⟨h1, h2, h3, h4⟩ := dc (c := 10) (l := rest) h
    rw [if_neg (by omega), if_pos (by omega), if_pos (by omega), h2, if_pos rfl, wrap_nat (by omega)]
    rfl
  · obtain ⟨h1, h2, h3, h4⟩ := dc (c := 13) (l := 10 :: rest) h
    obtain ⟨k1, k2, k3, k4⟩ := dc h3
    rw [if_neg (by omega), if_pos (by omega), if_pos (by omega), h2, if_neg (by omega), if_pos rfl, wrap_nat (by omega), if_pos (by omega), if_pos (by omega), k2, if_pos rfl, wrap_in (by omega) (by omega)]
    rfl
  · have := dn (b := b) h hq
    rw [if_pos (by omega)]
    rfl
def joinC : List (List Int × List Int) → List Int
  | [] => []
  | [x] => x.1
  | x :: y :: r => x.1 ++ 44 :: joinC (y :: r)
def toks (p : Nat) : List (List Int × List Int) → List S59
  | [] => []
  | x :: r => ⟨5, strOfNums x.2, (p : Int)⟩ :: toks (p + x.1.length + 1) r
theorem toks_len : ∀ (r : List (List Int × List Int)) (p : Nat), (toks p r).length = r.length := by
  intro r
  induction r with
  | nil => intro p; rfl
  | cons x r ih => intro p; simp [toks, ih]
theorem record_step (b : List Int) (hb : b.length ≤ 1000000) (hB : ∀ x ∈ b, 0 ≤ x ∧ x < 256) (p : Nat) (x : List Int × List Int) (tail : List Int) (acc : List S59) (hp : p ≤ b.length) (ha : acc.length ≤ p) (hT : Tok x.1 x.2) (h : b.drop p = x.1 ++ tail) (hs : sep tail) (c : Bool) (hc : c = true ↔ ∃ l, tail = 44 :: l) {R : List S59 × Int × Int × Int}
    (hn : Ev (fun k => csvr_record.j1 k b (acc ++ [(⟨5, strOfNums x.2, (p : Int)⟩ : S59)]) ((p + x.1.length : Nat) : Int) c) R) : Ev (fun k => csvr_record.l0 k b (p : Int) acc) R := by
  have hf := field_tok b hb hB p x.1 x.2 tail hp hT h hs
  have hd := drop_app h
  have hl := drop_len hp h
  rw [List.length_append] at hl
  refine Ev.step (f := ?qf0) ?qh0 ?qk0
  case qh0 =>
    intro k
    simp only [csvr_record.l0]
    rfl
  refine Ev.bind (g := fun k => csvr_field.f k b (p : Int)) hf (Ev.congr (fun k => ?_) hn)
  rw [if_pos (by rfl), if_pos (by omega), Option.bind_some]
  show (if ((p + x.1.length : Nat) : Int) < (b.length : Int) then (if (0 : Int) ≤ ((p + x.1.length : Nat) : Int) then (csvr_record.j1 k b (acc ++ [(⟨5, strOfNums x.2, (p : Int)⟩ : S59)]) ((p + x.1.length : Nat) : Int) ((rd b ((p + x.1.length : Nat) : Int)) == 44)) else none) else _) = _
  cases tail with
  | nil =>
    have hcf : c = false := by
      cases c with
      | false => rfl
      | true => obtain ⟨l, hl'⟩ := hc.1 rfl; cases hl'
    simp only [List.length_nil] at hl
    rw [if_neg (by omega), hcf]
  | cons d tl =>
    obtain ⟨h1, h2, h3, h4⟩ := dc hd
    rw [if_pos (by omega), if_pos (by omega), h2]
    have : (d == 44) = c := by
      cases c with
      | true => obtain ⟨l, hl'⟩ := hc.1 rfl; injection hl' with e1 e2; subst e1; rfl
      | false =>
        by_cases e : d = 44
        · have := hc.2 ⟨tl, by rw [e]⟩; cases this
        · simp [e]
    rw [this]
theorem record_run (b : List Int) (hb : b.length ≤ 1000000) (hB : ∀ x ∈ b, 0 ≤ x ∧ x < 256) (e rest : List Int) (he : End e rest) : ∀ (r : List (List Int × List Int)) (x : List Int × List Int) (p : Nat) (acc : List S59),
    b.drop p = joinC (x :: r) ++ (e ++ rest) → p ≤ b.length → acc.length ≤ p → (∀ y ∈ x :: r, Tok y.1 y.2) → Ev (fun k => csvr_record.l0 k b (p : Int) acc) (acc ++ toks p (x :: r), ((p + (joinC (x :: r)).length + e.length : Nat) : Int), 0, 0) := by
  intro r
  induction r with
  | nil =>
    intro x p acc h hp ha hT
    have h : b.drop p = x.1 ++ (e ++ rest) := h
    have hl := drop_len hp h
    rw [List.length_append] at hl
    have hd := drop_app h
    refine record_step b hb hB p x (e ++ rest) acc hp ha (hT x (List.mem_cons_self ..)) h (end_sep he) false ⟨fun z => (by cases z), fun ⟨l, z⟩ => absurd z (end_44 he l)⟩ ?_
    refine Ev.step (f := fun _ => some _) (fun k => ?_) (Ev.now _)
    simp only [csvr_record.j1]
    rw [if_neg (by simp), end_f b hb _ (by omega) e rest he hd, Option.bind_some, if_pos rfl]
    rfl
  | cons y r ih =>
    intro x p acc h hp ha hT
    have h' : b.drop p = x.1 ++ 44 :: (joinC (y :: r) ++ (e ++ rest)) := by rw [h]; simp [joinC]
    have hl := drop_len hp h'
    rw [List.length_append, List.length_cons] at hl
    have hd := drop_app h'
    obtain ⟨k1, k2, k3, k4⟩ := dc hd
    refine record_step b hb hB p x _ acc hp ha (hT x (List.mem_cons_self ..)) h' (.inr ⟨44, _, rfl, by decide⟩) true ⟨fun _ => ⟨_, rfl⟩, fun _ => rfl⟩ ?_
    have hi := ih y (p + x.1.length + 1) (acc ++ [(⟨5, strOfNums x.2, (p : Int)⟩ : S59)]) k3 (by omega) (by simp only [List.length_append, List.length_cons, List.length_nil]; omega) (fun z hz => hT z (List.mem_cons_of_mem _ hz))
    have e1 : acc ++ [(⟨5, strOfNums x.2, (p : Int)⟩ : S59)] ++ toks (p + x.1.length + 1) (y :: r) = acc ++ toks p (x :: y :: r) := by simp [toks]
    have e2 : p + x.1.length + 1 + (joinC (y :: r)).length + e.length = p + (joinC (x :: y :: r)).length + e.length := by simp only [joinC, List.length_append, List.length_cons]; omega
    rw [e1, e2] at hi
    refine Ev.step (f := fun k => csvr_record.l0 k b ((p + x.1.length + 1 : Nat) : Int) (acc ++ [(⟨5, strOfNums x.2, (p : Int)⟩ : S59)])) (fun k => ?_) hi
    simp only [csvr_record.j1]
    rw [if_pos trivial, wrap_nat (by omega)]
abbrev Row := List (List Int × List Int) × List Int
def rowT (R : Row) : List Int := joinC R.1 ++ R.2
def textR : List Row → List Int
  | [] => []
  | R :: l => rowT R ++ textR l
def rowsAt (p : Nat) : List Row → List (List S59)
  | [] => []
  | R :: l => toks p R.1 :: rowsAt (p + (rowT R).length) l
def okRow (R : Row) (rest : List Int) : Prop := R.1 ≠ [] ∧ (∀ y ∈ R.1, Tok y.1 y.2) ∧ End R.2 rest ∧ rowT R ≠ []
def okRows : List Row → Prop
  | [] => True
  | R :: l => okRow R (textR l) ∧ okRows l
theorem rowsAt_len : ∀ (l : List Row) (p : Nat), (rowsAt p l).length = l.length := by
  intro l
  induction l with
  | nil => intro p; rfl
  | cons x r ih => intro p; simp [rowsAt, ih]
theorem parse_run (b : List Int) (hb : b.length ≤ 1000000) (hB : ∀ x ∈ b, 0 ≤ x ∧ x < 256) : ∀ (l : List Row) (p : Nat) (acc : List (List S59)), b.drop p = textR l → p ≤ b.length → acc.length ≤ p → okRows l →
    Ev (fun k => csvr_Parse.l0 k b acc (p : Int)) (acc ++ rowsAt p l, 0, 0) := by
  intro l
  induction l with
  | nil =>
    intro p acc h hp ha hok
    have := dn (b := b) h hp
    refine Ev.step (f := fun _ => some _) (fun k => ?_) (Ev.now _)
    simp only [csvr_Parse.l0]
    rw [if_neg (by omega)]
    simp [rowsAt]
  | cons R l ih =>
    intro p acc h hp ha hok
    obtain ⟨⟨o1, o2, o3, o4⟩, ok⟩ := hok
    have hl := drop_len hp h
    have h0 : 0 < (rowT R).length := List.length_pos_iff.2 o4
    have hRl : (rowT R).length = (joinC R.1).length + R.2.length := by unfold rowT; rw [List.length_append]
    simp only [textR, List.length_append] at hl
    obtain ⟨fs, e⟩ := R
    cases fs with
    | nil => exact absurd rfl o1
    | cons x r =>
      have h' : b.drop p = joinC (x :: r) ++ (e ++ textR l) := by rw [h]; simp [textR, rowT]
      have hr := record_run b hb hB e (textR l) o3 r x p [] h' hp (by simp) o2
      rw [List.nil_append] at hr
      have hd := drop_app (b := b) (p := p) (t := rowT (x :: r, e)) (l := textR l) h
      have hi := ih (p + (rowT (x :: r, e)).length) (acc ++ [toks p (x :: r)]) hd (by omega) (by simp only [List.length_append, List.length_cons, List.length_nil]; omega) ok
      have e1 : acc ++ [toks p (x :: r)] ++ rowsAt (p + (rowT (x :: r, e)).length) l = acc ++ rowsAt p ((x :: r, e) :: l) := by simp [rowsAt]
      rw [e1] at hi
      refine Ev.step (f := ?qf0) ?qh0 ?qk0
      case qh0 =>
        intro k
        simp only [csvr_Parse.l0]
        rw [if_pos (by omega)]
      refine Ev.bind (g := fun k => csvr_record.f k b (p : Int)) hr (Ev.congr (fun k => ?_) hi)
      have e2 : p + (rowT (x :: r, e)).length = p + (joinC (x :: r)).length + e.length := by simp only at hRl; omega
      rw [if_pos (by rfl), if_pos (by omega), e2]
theorem parse_rows (l : List Row) (hb : (textR l).length ≤ 1000000) (hB : ∀ x ∈ textR l, 0 ≤ x ∧ x < 256) (hok : okRows l) : Ev (fun k => csvr_Parse.f k (textR l)) (rowsAt 0 l, 0, 0) := by
  have := parse_run (textR l) hb hB l 0 [] rfl (Nat.zero_le _) (Nat.le_refl _) hok
  rw [List.nil_append] at this
  refine Ev.congr (fun k => ?_) this
  unfold csvr_Parse.f scan_Long.f
  rw [if_neg (by omega), Option.bind_some, if_neg (by simp)]
  rfl
theorem joinC_snoc (r : List (List Int × List Int)) (x : List Int × List Int) : joinC (r ++ [x]) = if r = [] then x.1 else joinC r ++ 44 :: x.1 := by
  induction r with
  | nil => rfl
  | cons y r ih =>
    rw [if_neg (by simp)]
    cases r with
    | nil => rfl
    | cons z r =>
      rw [if_neg (by simp)] at ih
      show y.1 ++ 44 :: joinC (z :: r ++ [x]) = y.1 ++ 44 :: joinC (z :: r) ++ 44 :: x.1
      rw [ih]
      simp
theorem textR_app (l m : List Row) : textR (l ++ m) = textR l ++ textR m := by
  induction l with
  | nil => rfl
  | cons R l ih => simp [textR, ih]
theorem textR_snoc (l : List Row) (R : Row) : textR (l ++ [R]) = textR l ++ rowT R := by
  rw [textR_app]
  simp [textR]
theorem okRows_snoc (x : Row) (hx : okRow x []) : ∀ l : List Row, (∀ R ∈ l, ∀ rest, okRow R rest) → okRows (l ++ [x]) := by
  intro l
  induction l with
  | nil => intro _; exact ⟨hx, trivial⟩
  | cons R l ih => intro h; exact ⟨h R (List.mem_cons_self ..) _, ih (fun S hS => h S (List.mem_cons_of_mem _ hS))⟩
theorem okRows_full : ∀ l : List Row, (∀ R ∈ l, ∀ rest, okRow R rest) → okRows l := by
  intro l
  induction l with
  | nil => intro _; trivial
  | cons R l ih => intro h; exact ⟨h R (List.mem_cons_self ..) _, ih (fun S hS => h S (List.mem_cons_of_mem _ hS))⟩
theorem toks_get (b : List Int) : ∀ (r : List (List Int × List Int)) (p j : Nat) (tail : List Int), b.drop p = joinC r ++ tail → j < r.length → ∃ q : Nat, ∃ l', (toks p r).getD j z59 = ⟨5, strOfNums (r.getD j ([], [])).2, (q : Int)⟩ ∧ b.drop q = (r.getD j ([], [])).1 ++ l' := by
  intro r
  induction r with
  | nil => intro p j tail h hj; exact absurd hj (by simp)
  | cons x r ih =>
    intro p j tail h hj
    cases j with
    | zero =>
      refine ⟨p, ?_, rfl, ?_⟩
      · exact (b.drop (p + x.1.length))
      · have : ∃ l', b.drop p = x.1 ++ l' := by
          cases r with
          | nil => exact ⟨tail, h⟩
          | cons y r => exact ⟨44 :: (joinC (y :: r) ++ tail), by rw [h]; simp [joinC]⟩
        obtain ⟨l', hl'⟩ := this
        rw [drop_app hl']
        exact hl'
    | succ j =>
      cases r with
      | nil => exact absurd hj (by simp)
      | cons y r =>
        have h' : b.drop p = x.1 ++ 44 :: (joinC (y :: r) ++ tail) := by rw [h]; simp [joinC]
        obtain ⟨k1, k2, k3, k4⟩ := dc (drop_app h')
        have := ih (p + x.1.length + 1) j tail k3 (by simp at hj ⊢; omega)
        exact this
theorem rows_get (b : List Int) : ∀ (l : List Row) (p i : Nat), b.drop p = textR l → i < l.length → ∃ p' tail, (rowsAt p l).getD i [] = toks p' (l.getD i ([], [])).1 ∧ b.drop p' = joinC (l.getD i ([], [])).1 ++ tail := by
  intro l
  induction l with
  | nil => intro p i h hi; exact absurd hi (by simp)
  | cons R l ih =>
    intro p i h hi
    cases i with
    | zero => exact ⟨p, R.2 ++ textR l, rfl, by rw [h]; simp [textR, rowT]⟩
    | succ i => exact ih (p + (rowT R).length) i (drop_app h) (by simp at hi; omega)
end Go.Proofs.YtcgchblljhbdaaaDoor.CsvP
