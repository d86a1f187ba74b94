/- Records, in plain lists: a field without quotes, a field in quotes. -/
import Derived.Test.YtcgchblljhbdaaaDoorCx3
import Derived.Test.YtcgchblljhbdaaaDoorCx4
import Derived.Test.YtcgchblljhbdaaaDoorCx5
import Derived.Test.YtcgchblljhbdaaaDoorPB
namespace Go.Proofs.YtcgchblljhbdaaaDoor.CsvS
open Go Go.RowKit Go.Proofs.YtcgchblljhbdaaaDoorW.PrintWords Go.Proofs.YtcgchblljhbdaaaDoorW.PrintMore Go.Proofs.YtcgchblljhbdaaaDoor.PL Go.Proofs.YtcgchblljhbdaaaDoor.PB Go.Proofs.YtcgchblljhbdaaaDoor.C
set_option linter.unusedSimpArgs false
set_option linter.unusedVariables false
def isPl (c : Int) : Bool := decide (32 ≤ c) && decide (c ≤ 126) && !(c == 34) && !(c == 44)
def isE (c : Int) : Bool := c == 44 || c == 10 || c == 13
theorem plain_f (c : Int) (h0 : 0 ≤ c) (h1 : c < 256) : csvr_plain.f c = some (isPl c) :=
  eq_of_beq (byteB (p := fun c => csvr_plain.f c == some (isPl c)) (by kernel_rfl) c h0 h1)
/-- What a field without quotes comes to, that begins at i, read till n, with l ahead. -/
def openR (b : List Int) (i n : Nat) (l : List Int) : ByteArray × Int × Int × Int :=
  match l.dropWhile isPl with
  | [] => (strOfNums ((b.take (n + (l.takeWhile isPl).length)).drop i), ((n + (l.takeWhile isPl).length : Nat) : Int), 0, 0)
  | c :: _ => if isE c = true then (strOfNums ((b.take (n + (l.takeWhile isPl).length)).drop i), ((n + (l.takeWhile isPl).length : Nat) : Int), 0, 0) else ((⟨#[]⟩ : ByteArray), 0, 1, ((n + (l.takeWhile isPl).length : Nat) : Int))
theorem open_run (b : List Int) (hb : b.length < 4611686018427387904) (hB : ∀ x ∈ b, 0 ≤ x ∧ x < 256) (i : Nat) : ∀ (l : List Int) (n : Nat), b.drop n = l → n ≤ b.length → i ≤ n →
    Ev (fun k => csvr_open.l0 k b (i : Int) (n : Int)) (openR b i n l) := by
  intro l
  induction l with
  | nil =>
    intro n h hn hi
    have := dn h hn
    refine Ev.step (f := fun _ => some _) (fun k => ?_) (Ev.now _)
    simp only [csvr_open.l0]
    rw [if_neg (by omega), if_pos (by omega), if_pos (by omega), if_pos (by omega)]
    simp [openR]
  | cons c l ih =>
    intro n h hn hi
    obtain ⟨h1, h2, h3, h4⟩ := dc h
    have hc := hB c (List.mem_of_mem_drop (i := n) (by rw [h]; exact List.mem_cons_self ..))
    have hp := plain_f c hc.1 hc.2
    by_cases hpl : isPl c = true
    · have e : openR b i n (c :: l) = openR b i (n + 1) l := by
        unfold openR
        rw [List.dropWhile_cons, if_pos hpl, List.takeWhile_cons, if_pos hpl, List.length_cons]
        have : n + ((l.takeWhile isPl).length + 1) = n + 1 + (l.takeWhile isPl).length := by omega
        rw [this]
      rw [e]
      refine Ev.step (f := fun k => csvr_open.l0 k b (i : Int) ((n + 1 : Nat) : Int)) (fun k => ?_) (ih (n + 1) h3 (by omega) (by omega))
      simp only [csvr_open.l0]
      rw [if_pos (by omega), if_pos (by omega), h2, hp, hpl, Option.bind_some, if_pos rfl, wrap_nat (by omega)]
    · have e : openR b i n (c :: l) = if isE c = true then (strOfNums ((b.take n).drop i), (n : Int), 0, 0) else ((⟨#[]⟩ : ByteArray), 0, 1, (n : Int)) := by
        unfold openR
        rw [List.dropWhile_cons, if_neg hpl, List.takeWhile_cons, if_neg hpl]
        rfl
      rw [e]
      refine Ev.step (f := fun _ => some _) (fun k => ?_) (Ev.now _)
      simp only [csvr_open.l0]
      rw [if_pos (by omega), if_pos (by omega), h2, hp, Bool.eq_false_iff.2 hpl, Option.bind_some, if_neg (by simp)]
      unfold isE
      by_cases e1 : c = 44
      · subst e1
        rw [if_pos rfl, if_pos (by omega), if_pos (by omega), if_pos (by omega)]
        rfl
      · by_cases e2 : c = 10
        · subst e2
          rw [if_neg e1, if_pos rfl, if_pos (by omega), if_pos (by omega), if_pos (by omega)]
          rfl
        · by_cases e3 : c = 13
          · subst e3
            rw [if_neg e1, if_neg e2, if_pos rfl, if_pos (by omega), if_pos (by omega), if_pos (by omega)]
            rfl
          · rw [if_neg e1, if_neg e2, if_neg e3, if_neg (by simp [e1, e2, e3])]
/-- What a field in quotes comes to: what it has till here, what lies ahead, its place, how long all is. -/
def quotR (L : Nat) : List Int → List Int → Nat → ByteArray × Int × Int × Int
  | acc, [], _ => ((⟨#[]⟩ : ByteArray), 0, 1, (L : Int))
  | acc, 34 :: 34 :: l, n => quotR L (acc ++ [34]) l (n + 2)
  | acc, c :: l, n => if c = 34 then (strOfNums acc, ((n + 1 : Nat) : Int), 0, 0) else if isPl c = true ∨ isE c = true then quotR L (acc ++ [c]) l (n + 1) else ((⟨#[]⟩ : ByteArray), 0, 1, (n : Int))
theorem quotR_q2 (L : Nat) (acc l : List Int) (n : Nat) : quotR L acc (34 :: 34 :: l) n = quotR L (acc ++ [34]) l (n + 2) := by rw [quotR]
theorem quotR_q1 (L : Nat) (acc l : List Int) (n : Nat) (h : ∀ l', l ≠ 34 :: l') : quotR L acc (34 :: l) n = (strOfNums acc, ((n + 1 : Nat) : Int), 0, 0) := by
  cases l with
  | nil =>
    rw [quotR]
    · rfl
    · intro l' _ e
      cases e
  | cons c l =>
    have hc : c ≠ 34 := fun e => h l (by rw [e])
    rw [quotR]
    · rfl
    · intro l' _ e
      injection e with a b
      exact hc a
theorem quotR_c (L : Nat) (acc : List Int) (c : Int) (l : List Int) (n : Nat) (hc : c ≠ 34) : quotR L acc (c :: l) n = if isPl c = true ∨ isE c = true then quotR L (acc ++ [c]) l (n + 1) else ((⟨#[]⟩ : ByteArray), 0, 1, (n : Int)) := by
  rw [quotR]
  · rw [if_neg hc]
  · intro l' h' _
    exact hc h'
theorem quoted_run (b : List Int) (hb : b.length ≤ 1000000) (hB : ∀ x ∈ b, 0 ≤ x ∧ x < 256) : ∀ (d : Nat) (l : List Int) (n : Nat) (acc : List Int), l.length ≤ d → b.drop n = l → n ≤ b.length → acc.length ≤ n →
    Ev (fun k => csvr_quoted.l0 k b acc (n : Int)) (quotR b.length acc l n) := by
  intro d
  induction d with
  | zero =>
    intro l n acc hd h hn ha
    obtain rfl := List.eq_nil_of_length_eq_zero (by omega : l.length = 0)
    have := dn h hn
    refine Ev.step (f := fun _ => some _) (fun k => ?_) (Ev.now _)
    simp only [csvr_quoted.l0]
    rw [if_neg (by omega)]
    simp [quotR]
  | succ d ih =>
    intro l n acc hd h hn ha
    cases l with
    | nil =>
      have := dn h hn
      refine Ev.step (f := fun _ => some _) (fun k => ?_) (Ev.now _)
      simp only [csvr_quoted.l0]
      rw [if_neg (by omega)]
      simp [quotR]
    | cons c l =>
      obtain ⟨h1, h2, h3, h4⟩ := dc h
      have hcB := hB c (List.mem_of_mem_drop (i := n) (by rw [h]; exact List.mem_cons_self ..))
      have hp := plain_f c hcB.1 hcB.2
      simp only [List.length_cons] at hd
      by_cases hc : c = 34
      · subst hc
        by_cases hq : ∃ l', l = 34 :: l'
        · obtain ⟨l', rfl⟩ := hq
          obtain ⟨g1, g2, g3, g4⟩ := dc h3
          simp only [List.length_cons] at hd
          rw [quotR_q2]
          refine Ev.step (f := fun k => csvr_quoted.j1 k b acc (n : Int) 34 true) (fun k => ?_) (Ev.step (f := fun k => csvr_quoted.l0 k b (acc ++ [34]) ((n + 2 : Nat) : Int)) (fun k => ?_) (ih l' (n + 2) (acc ++ [34]) (by omega) g3 (by omega) (by simp; omega)))
          · simp only [csvr_quoted.l0]
            rw [if_pos (by omega), if_pos (by omega), h2, if_pos rfl, wrap_nat (by omega), if_pos (by omega), if_pos (by omega), g2]
            rfl
          · simp only [csvr_quoted.j1]
            rw [if_pos trivial, if_pos (by omega), wrap_nat (by omega), wrap_nat (by omega)]
        · rw [quotR_q1 _ _ _ _ (fun l' e => hq ⟨l', e⟩)]
          have hf : ∀ k, csvr_quoted.j1 (k + 1) b acc (n : Int) 34 false = some (strOfNums acc, ((n + 1 : Nat) : Int), 0, 0) := by
            intro k
            simp only [csvr_quoted.j1]
            rw [if_neg (by simp), if_pos trivial, wrap_nat (by omega)]
          refine Ev.step (f := fun k => csvr_quoted.j1 k b acc (n : Int) 34 false) (fun k => ?_) (Ev.step (f := fun _ => some _) (fun k => hf k) (Ev.now _))
          simp only [csvr_quoted.l0]
          rw [if_pos (by omega), if_pos (by omega), h2, if_pos rfl, wrap_nat (by omega)]
          cases l with
          | nil => rw [if_neg (by simp at h4; omega)]
          | cons c2 l2 =>
            obtain ⟨g1, g2, g3, g4⟩ := dc h3
            have hc2 : c2 ≠ 34 := fun e => hq ⟨l2, by rw [e]⟩
            rw [if_pos (by omega), if_pos (by omega), g2]
            have : (c2 == 34) = false := by simpa using hc2
            rw [this]
      · rw [quotR_c _ _ _ _ _ hc]
        have hstep : ∀ k, csvr_quoted.l0 (k + 1) b acc (n : Int) = csvr_quoted.j1 k b acc (n : Int) c false := by
          intro k
          simp only [csvr_quoted.l0]
          rw [if_pos (by omega), if_pos (by omega), h2, if_neg hc]
        by_cases hok : isPl c = true ∨ isE c = true
        · rw [if_pos hok]
          refine Ev.step (f := fun k => csvr_quoted.j1 k b acc (n : Int) c false) hstep (Ev.step (f := fun k => csvr_quoted.l0 k b (acc ++ [c]) ((n + 1 : Nat) : Int)) (fun k => ?_) (ih l (n + 1) (acc ++ [c]) (by omega) h3 (by omega) (by simp; omega)))
          simp only [csvr_quoted.j1]
          rw [if_neg (by simp), if_neg hc, hp, Option.bind_some]
          by_cases hpl : isPl c = true
          · rw [if_pos hpl, if_pos (by omega), wrap_nat (by omega)]
          · have hE : isE c = true := hok.resolve_left hpl
            rw [if_neg hpl]
            unfold isE at hE
            by_cases e1 : c = 44
            · rw [if_pos e1, if_pos (by omega), wrap_nat (by omega)]
            · by_cases e2 : c = 10
              · rw [if_neg e1, if_pos e2, if_pos (by omega), wrap_nat (by omega)]
              · have e3 : c = 13 := by simpa [e1, e2] using hE
                rw [if_neg e1, if_neg e2, if_pos e3, if_pos (by omega), wrap_nat (by omega)]
        · rw [if_neg hok]
          have hpl : ¬ isPl c = true := fun z => hok (.inl z)
          have hE : ¬ isE c = true := fun z => hok (.inr z)
          unfold isE at hE
          simp only [Bool.or_eq_true, beq_iff_eq, not_or] at hE
          refine Ev.step (f := fun k => csvr_quoted.j1 k b acc (n : Int) c false) hstep (Ev.step (f := fun _ => some _) (fun k => ?_) (Ev.now _))
          simp only [csvr_quoted.j1]
          rw [if_neg (by simp), if_neg hc, hp, Option.bind_some, if_neg hpl, if_neg hE.1.1, if_neg hE.1.2, if_neg hE.2]
/-- A field: its text, the place behind it, and what is wrong. -/
def fieldR (b : List Int) (n : Nat) (l : List Int) : ByteArray × Int × Int × Int :=
  match l with
  | 34 :: l' => quotR b.length [] l' (n + 1)
  | _ => openR b n n l
def fieldE (at_ : Int) (r : ByteArray × Int × Int × Int) : Int × ByteArray × Int × Int × Int × Int :=
  if r.2.2.1 = 0 then (if (r.1.size : Int) > 255 then (5, r.1, at_, r.2.1, 2, at_) else (5, r.1, at_, r.2.1, r.2.2.1, r.2.2.2)) else (5, r.1, at_, r.2.1, r.2.2.1, r.2.2.2)
theorem field_q (b : List Int) (hb : b.length ≤ 1000000) (hB : ∀ x ∈ b, 0 ≤ x ∧ x < 256) (n : Nat) (l : List Int) (h : b.drop n = 34 :: l) : Ev (fun k => csvr_field.f k b (n : Int)) (fieldE (n : Int) (quotR b.length [] l (n + 1))) := by
  obtain ⟨h1, h2, h3, h4⟩ := dc h
  have hq := quoted_run b hb hB l.length l (n + 1) [] (Nat.le_refl _) h3 (by omega) (by simp)
  refine Ev.congr (f := fun k => csvr_field.j0 k b (n : Int) true) (fun k => ?_) (Ev.step (f := fun k => (csvr_quoted.f k b (n : Int)).bind fun bt134 => (if bt134.2.2.1 = 0 then (if (bt134.1.size : Int) > 255 then (some (5, bt134.1, (n : Int), bt134.2.1, 2, (n : Int))) else (some (5, bt134.1, (n : Int), bt134.2.1, bt134.2.2.1, bt134.2.2.2))) else (some (5, bt134.1, (n : Int), bt134.2.1, bt134.2.2.1, bt134.2.2.2)))) (fun k => ?_) (Ev.bind (g := fun k => csvr_quoted.f k b (n : Int)) (Ev.congr (fun k => ?_) hq) (Ev.congr (fun k => ?_) (Ev.now _))))
  · unfold csvr_field.f
    rw [if_pos (by omega), if_pos (by omega), h2]
    rfl
  · simp only [csvr_field.j0]
    rw [if_pos trivial]
  · unfold csvr_quoted.f
    rw [wrap_nat (by omega)]
  · unfold fieldE
    split
    · split <;> rfl
    · rfl
theorem field_o (b : List Int) (hb : b.length ≤ 1000000) (hB : ∀ x ∈ b, 0 ≤ x ∧ x < 256) (n : Nat) (hn : n ≤ b.length) (l : List Int) (h : b.drop n = l) (hq : ∀ l', l ≠ 34 :: l') : Ev (fun k => csvr_field.f k b (n : Int)) (fieldE (n : Int) (openR b n n l)) := by
  have hr := open_run b (by omega) hB n l n h hn (Nat.le_refl _)
  refine Ev.congr (f := fun k => csvr_field.j0 k b (n : Int) false) (fun k => ?_) (Ev.step (f := fun k => (csvr_open.f k b (n : Int)).bind fun bt139 => (if bt139.2.2.1 = 0 then (if (bt139.1.size : Int) > 255 then (some (5, bt139.1, (n : Int), bt139.2.1, 2, (n : Int))) else (some (5, bt139.1, (n : Int), bt139.2.1, bt139.2.2.1, bt139.2.2.2))) else (some (5, bt139.1, (n : Int), bt139.2.1, bt139.2.2.1, bt139.2.2.2)))) (fun k => ?_) (Ev.bind (g := fun k => csvr_open.f k b (n : Int)) hr (Ev.congr (fun k => ?_) (Ev.now _))))
  · unfold csvr_field.f
    cases l with
    | nil =>
      have := dn h hn
      rw [if_neg (by omega)]
    | cons c l =>
      obtain ⟨h1, h2, h3, h4⟩ := dc h
      have hc : (c == 34) = false := by
        have : c ≠ 34 := fun e => hq l (by rw [e])
        simpa using this
      rw [if_pos (by omega), if_pos (by omega), h2, hc]
  · simp only [csvr_field.j0]
    rw [if_neg (by simp)]
  · unfold fieldE
    split
    · split <;> rfl
    · rfl
end Go.Proofs.YtcgchblljhbdaaaDoor.CsvS
