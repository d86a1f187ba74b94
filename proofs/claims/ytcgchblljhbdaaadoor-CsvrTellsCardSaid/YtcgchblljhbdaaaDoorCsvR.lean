/- The document's reader of records comes to what the program's comes to, for any bytes. -/
import Derived.Test.YtcgchblljhbdaaaDoorCx10
import Derived.Test.YtcgchblljhbdaaaDoorCx11
import Derived.Test.YtcgchblljhbdaaaDoorCx12
import Derived.Test.YtcgchblljhbdaaaDoorCx3
import Derived.Test.YtcgchblljhbdaaaDoorCx4
import Derived.Test.YtcgchblljhbdaaaDoorCx5
import Derived.Test.YtcgchblljhbdaaaDoorCsvP
namespace Go.Proofs.YtcgchblljhbdaaaDoor.CsvR
open Go Go.RowKit Go.Proofs.YtcgchblljhbdaaaDoorW.PrintWords Go.Proofs.YtcgchblljhbdaaaDoorW.PrintMore Go.Proofs.YtcgchblljhbdaaaDoor.PL Go.Proofs.YtcgchblljhbdaaaDoor.PB Go.Proofs.YtcgchblljhbdaaaDoor.C Go.Proofs.YtcgchblljhbdaaaDoor.CsvS Go.Proofs.YtcgchblljhbdaaaDoor.CsvP
set_option linter.unusedSimpArgs false
set_option linter.unusedVariables false
theorem pl_iff (c : Int) : isPl c = true ↔ 32 ≤ c ∧ c ≤ 126 ∧ c ≠ 34 ∧ c ≠ 44 := by
  simp [isPl, and_assoc]
/-- What a field in quotes comes to, in the document's form. -/
def rq (r : ByteArray × Int × Int × Int) : ByteArray × Int × Int := if r.2.2.1 = 0 then (r.1, r.2.1, -1) else ((⟨#[]⟩ : ByteArray), 0, r.2.2.2)
theorem quot_facts (L : Nat) : ∀ (d : Nat) (l acc : List Int) (n : Nat), l.length ≤ d → L = n + l.length →
    ((quotR L acc l n).2.2.1 = 0 ∧ (quotR L acc l n).2.2.2 = 0 ∧ ∃ m : Nat, (quotR L acc l n).2.1 = (m : Int) ∧ n ≤ m ∧ m ≤ L) ∨ ((quotR L acc l n).2.2.1 = 1 ∧ (quotR L acc l n).1 = (⟨#[]⟩ : ByteArray) ∧ (quotR L acc l n).2.1 = 0 ∧ ∃ m : Nat, (quotR L acc l n).2.2.2 = (m : Int)) := by
  intro d
  induction d with
  | zero =>
    intro l acc n hd hL
    obtain rfl := List.eq_nil_of_length_eq_zero (by omega : l.length = 0)
    exact .inr ⟨by simp [quotR], by simp [quotR], by simp [quotR], L, by simp [quotR]⟩
  | succ d ih =>
    intro l acc n hd hL
    cases l with
    | nil => exact .inr ⟨by simp [quotR], by simp [quotR], by simp [quotR], L, by simp [quotR]⟩
    | cons c l =>
      simp only [List.length_cons] at hd hL
      by_cases hc : c = 34
      · subst hc
        by_cases hq : ∃ l', l = 34 :: l'
        · obtain ⟨l', rfl⟩ := hq
          simp only [List.length_cons] at hd hL
          rw [quotR_q2]
          rcases ih l' (acc ++ [34]) (n + 2) (by omega) (by omega) with ⟨a, b, m, e, h1, h2⟩ | h
          · exact .inl ⟨a, b, m, e, by omega, h2⟩
          · exact .inr h
        · rw [quotR_q1 _ _ _ _ (fun l' e => hq ⟨l', e⟩)]
          exact .inl ⟨rfl, rfl, n + 1, rfl, by omega, by omega⟩
      · rw [quotR_c _ _ _ _ _ hc]
        by_cases hok : isPl c = true ∨ isE c = true
        · rw [if_pos hok]
          rcases ih l (acc ++ [c]) (n + 1) (by omega) (by omega) with ⟨a, b, m, e, h1, h2⟩ | h
          · exact .inl ⟨a, b, m, e, by omega, h2⟩
          · exact .inr h
        · rw [if_neg hok]
          exact .inr ⟨rfl, rfl, rfl, n, rfl⟩
theorem rquoted_run (b : List Int) (hb : b.length ≤ 1000000) (hB : ∀ x ∈ b, 0 ≤ x ∧ x < 256) : ∀ (d : Nat) (l : List Int) (n : Nat) (acc : List Int), l.length ≤ d → b.drop n = l → n ≤ b.length → acc.length ≤ n →
    Ev (fun k => gleberef7_quoted.l0 k b (n : Int) acc) (rq (quotR b.length acc l n)) := by
  intro d
  induction d with
  | zero =>
    intro l n acc hd h hn ha
    obtain rfl := List.eq_nil_of_length_eq_zero (by omega : l.length = 0)
    have := dn h hn
    refine Ev.step (f := fun _ => some _) (fun k => ?_) (Ev.now _)
    simp only [gleberef7_quoted.l0]
    rw [if_neg (by omega)]
    simp [quotR, rq]
  | succ d ih =>
    intro l n acc hd h hn ha
    cases l with
    | nil =>
      have := dn h hn
      refine Ev.step (f := fun _ => some _) (fun k => ?_) (Ev.now _)
      simp only [gleberef7_quoted.l0]
      rw [if_neg (by omega)]
      simp [quotR, rq]
    | cons c l =>
      obtain ⟨h1, h2, h3, h4⟩ := dc h
      have hcB := hB c (List.mem_of_mem_drop (i := n) (by rw [h]; exact List.mem_cons_self ..))
      simp only [List.length_cons] at hd
      by_cases hc : c = 34
      · subst hc
        by_cases hq : ∃ l', l = 34 :: l'
        · obtain ⟨l', rfl⟩ := hq
          obtain ⟨g1, g2, g3, g4⟩ := dc h3
          simp only [List.length_cons] at hd
          rw [quotR_q2]
          refine Ev.step (f := fun k => gleberef7_quoted.j1 k b (n : Int) acc true) (fun k => ?_) (Ev.step (f := fun k => gleberef7_quoted.l0 k b ((n + 2 : Nat) : Int) (acc ++ [34])) (fun k => ?_) (ih l' (n + 2) (acc ++ [34]) (by omega) g3 (by omega) (by simp; omega)))
          · simp only [gleberef7_quoted.l0]
            rw [if_pos (by omega), if_pos (by omega), h2, if_pos rfl, wrap_nat (by omega), if_pos (by omega), if_pos (by omega), g2]
            rfl
          · simp only [gleberef7_quoted.j1]
            rw [if_pos trivial, if_pos (by omega), wrap_in (by omega) (by omega)]
            rfl
        · rw [quotR_q1 _ _ _ _ (fun l' e => hq ⟨l', e⟩)]
          have hf : ∀ k, gleberef7_quoted.j1 (k + 1) b (n : Int) acc false = some (rq (strOfNums acc, ((n + 1 : Nat) : Int), 0, 0)) := by
            intro k
            simp only [gleberef7_quoted.j1]
            rw [if_neg (by simp), if_pos (by omega), if_pos (by omega), h2, if_pos rfl, wrap_nat (by omega)]
            rfl
          refine Ev.step (f := fun k => gleberef7_quoted.j1 k b (n : Int) acc false) (fun k => ?_) (Ev.step (f := fun _ => some _) (fun k => hf k) (Ev.now _))
          simp only [gleberef7_quoted.l0]
          rw [if_pos (by omega), if_pos (by omega), h2, if_pos rfl, wrap_nat (by omega)]
          cases l with
          | nil => rw [if_neg (by simp at h4; omega)]
          | cons c2 l2 =>
            obtain ⟨g1, g2, g3, g4⟩ := dc h3
            have hc2 : c2 ≠ 34 := fun e => hq ⟨l2, by rw [e]⟩
            rw [if_pos (by omega), if_pos (by omega), g2]
            have : (c2 == 34) = false := by simpa using hc2
            rw [this]
      · rw [quotR_c _ _ _ _ _ hc]
        have hstep : ∀ k, gleberef7_quoted.l0 (k + 1) b (n : Int) acc = gleberef7_quoted.j1 k b (n : Int) acc false := by
          intro k
          simp only [gleberef7_quoted.l0]
          rw [if_pos (by omega), if_pos (by omega), h2, if_neg hc]
        by_cases hok : isPl c = true ∨ isE c = true
        · rw [if_pos hok]
          refine Ev.step (f := fun k => gleberef7_quoted.j1 k b (n : Int) acc false) hstep (Ev.step (f := fun k => gleberef7_quoted.l0 k b ((n + 1 : Nat) : Int) (acc ++ [c])) (fun k => ?_) (ih l (n + 1) (acc ++ [c]) (by omega) h3 (by omega) (by simp; omega)))
          simp only [gleberef7_quoted.j1]
          rw [if_neg (by simp), if_pos (by omega), if_pos (by omega), h2, if_neg hc, wrap_nat (by omega)]
          by_cases e2 : c = 10
          · rw [if_pos e2, if_pos (by omega)]
          · by_cases e3 : c = 13
            · rw [if_neg e2, if_pos e3, if_pos (by omega)]
            · have hr : 32 ≤ c ∧ c ≤ 126 := by
                rcases hok with z | z
                · have := (pl_iff c).1 z; omega
                · have := (isE_iff c).1 z; omega
              rw [if_neg e2, if_neg e3, if_neg (by omega), if_neg (by omega), if_pos (by omega)]
        · rw [if_neg hok]
          have hpl : ¬ isPl c = true := fun z => hok (.inl z)
          have hE : ¬ isE c = true := fun z => hok (.inr z)
          rw [isE_iff] at hE
          rw [pl_iff] at hpl
          refine Ev.step (f := fun k => gleberef7_quoted.j1 k b (n : Int) acc false) hstep (Ev.step (f := fun _ => some _) (fun k => ?_) (Ev.now _))
          simp only [gleberef7_quoted.j1]
          rw [if_neg (by simp), if_pos (by omega), if_pos (by omega), h2, if_neg hc, if_neg (by omega), if_neg (by omega)]
          by_cases e32 : c < 32
          · rw [if_pos e32]; rfl
          · rw [if_neg e32, if_pos (by omega)]; rfl
/-- What stands at a place is a field's end. -/
def sepAt (b : List Int) (m : Nat) : Prop := m = b.length ∨ m < b.length ∧ (rd b (m : Int) = 44 ∨ rd b (m : Int) = 10 ∨ rd b (m : Int) = 13)
instance (b : List Int) (m : Nat) : Decidable (sepAt b m) := by unfold sepAt; infer_instance
theorem rj2 (b : List Int) (p m : Nat) (hm : m ≤ b.length) (t : ByteArray) :
    Ev (fun k => gleberef7_field.j2 k b (p : Int) (m : Int) 5 t (p : Int)) (if sepAt b m then (if (t.size : Int) > 255 then (5, t, (p : Int), 0, 2, (p : Int)) else (5, t, (p : Int), (m : Int), 0, 0)) else (5, t, (p : Int), 0, 1, (m : Int))) := by
  have hj3 : ∀ c : Bool, (c = false ↔ sepAt b m) → Ev (fun k => gleberef7_field.j3 k (p : Int) (m : Int) c 5 t (p : Int)) (if sepAt b m then (if (t.size : Int) > 255 then (5, t, (p : Int), 0, 2, (p : Int)) else (5, t, (p : Int), (m : Int), 0, 0)) else (5, t, (p : Int), 0, 1, (m : Int))) := by
    intro c hc
    refine Ev.step (f := fun _ => some _) (fun k => ?_) (Ev.now _)
    simp only [gleberef7_field.j3]
    unfold gleberef7_syntax.f
    cases c with
    | true =>
      rw [if_pos rfl, if_neg (fun z => by have := hc.2 z; cases this), Option.bind_some]
    | false =>
      rw [if_neg (by simp), if_pos (hc.1 rfl)]
      split <;> rfl
  by_cases hl : m < b.length
  · by_cases e1 : rd b (m : Int) = 44
    · refine Ev.step (fun k => ?_) (hj3 false ⟨fun _ => .inr ⟨hl, .inl e1⟩, fun _ => rfl⟩)
      simp only [gleberef7_field.j2]
      rw [if_pos (by omega), if_pos (by omega), if_pos e1]
    · by_cases e2 : rd b (m : Int) = 10
      · refine Ev.step (fun k => ?_) (hj3 false ⟨fun _ => .inr ⟨hl, .inr (.inl e2)⟩, fun _ => rfl⟩)
        simp only [gleberef7_field.j2]
        rw [if_pos (by omega), if_pos (by omega), if_neg e1, if_pos e2]
      · refine Ev.step (fun k => ?_) (hj3 ((rd b (m : Int)) != 13) ⟨fun z => .inr ⟨hl, .inr (.inr (by simpa using z))⟩, fun z => ?_⟩)
        · simp only [gleberef7_field.j2]
          rw [if_pos (by omega), if_pos (by omega), if_neg e1, if_neg e2]
        · rcases z with z | ⟨_, z | z | z⟩
          · omega
          · exact absurd z e1
          · exact absurd z e2
          · simp [z]
  · refine Ev.step (fun k => ?_) (hj3 false ⟨fun _ => .inl (by omega), fun _ => rfl⟩)
    simp only [gleberef7_field.j2]
    rw [if_neg (by omega)]
theorem ropen_run (b : List Int) (hb : b.length ≤ 1000000) (p : Nat) {R : Int × ByteArray × Int × Int × Int × Int} : ∀ (l : List Int) (n : Nat), b.drop n = l → n ≤ b.length → p ≤ n →
    Ev (fun k => gleberef7_field.j2 k b (p : Int) ((n + (l.takeWhile isPl).length : Nat) : Int) 5 (strOfNums ((b.take (n + (l.takeWhile isPl).length)).drop p)) (p : Int)) R →
    Ev (fun k => gleberef7_field.l0 k b (p : Int) (n : Int) 5 (⟨#[]⟩ : ByteArray) (p : Int)) R := by
  intro l
  induction l with
  | nil =>
    intro n h hn hp hR
    have := dn h hn
    refine Ev.step (fun k => ?_) hR
    simp only [gleberef7_field.l0]
    rw [if_neg (by omega), if_pos (by omega), if_pos (by omega), if_pos (by omega)]
    rfl
  | cons c l ih =>
    intro n h hn hp hR
    obtain ⟨h1, h2, h3, h4⟩ := dc h
    by_cases hpl : isPl c = true
    · rw [List.takeWhile_cons, if_pos hpl, List.length_cons] at hR
      have e : n + ((l.takeWhile isPl).length + 1) = n + 1 + (l.takeWhile isPl).length := by omega
      rw [e] at hR
      have hr := (pl_iff c).1 hpl
      refine Ev.step (fun k => ?_) (ih (n + 1) h3 (by omega) (by omega) hR)
      simp only [gleberef7_field.l0]
      rw [if_pos (by omega), if_pos (by omega), h2, if_pos (by omega), if_pos (by omega), if_neg (by omega), if_neg (by omega), wrap_nat (by omega)]
    · rw [List.takeWhile_cons, if_neg hpl] at hR
      rw [pl_iff] at hpl
      refine Ev.step (fun k => ?_) hR
      simp only [gleberef7_field.l0]
      rw [if_pos (by omega), if_pos (by omega), h2]
      by_cases e1 : c ≥ 32
      · by_cases e2 : c ≤ 126
        · by_cases e3 : c = 34
          · rw [if_pos e1, if_pos e2, if_pos e3, if_pos (by omega), if_pos (by omega), if_pos (by omega)]
            rfl
          · rw [if_pos e1, if_pos e2, if_neg e3, if_pos (by omega), if_pos (by omega), if_pos (by omega), if_pos (by omega)]
            rfl
        · rw [if_pos e1, if_neg e2, if_pos (by omega), if_pos (by omega), if_pos (by omega)]
          rfl
      · rw [if_neg e1, if_pos (by omega), if_pos (by omega), if_pos (by omega)]
        rfl
/-- Both readers of a field. -/
theorem field_both (b : List Int) (hb : b.length ≤ 1000000) (hB : ∀ x ∈ b, 0 ≤ x ∧ x < 256) (p : Nat) (hp : p ≤ b.length) :
    (∃ (X Y : ByteArray) (nx nx' kd at_ : Int), kd ≠ 0 ∧ Ev (fun k => csvr_field.f k b (p : Int)) (5, X, (p : Int), nx, kd, at_) ∧ Ev (fun k => gleberef7_field.f k b (p : Int)) (5, Y, (p : Int), nx', kd, at_)) ∨
    (∃ (t : ByteArray) (m : Nat), p ≤ m ∧ m ≤ b.length ∧ Ev (fun k => csvr_field.f k b (p : Int)) (5, t, (p : Int), (m : Int), 0, 0) ∧
      (sepAt b m ∧ Ev (fun k => gleberef7_field.f k b (p : Int)) (5, t, (p : Int), (m : Int), 0, 0) ∨ ¬ sepAt b m ∧ Ev (fun k => gleberef7_field.f k b (p : Int)) (5, t, (p : Int), 0, 1, (m : Int)))) := by
  by_cases hq : ∃ l', b.drop p = 34 :: l'
  · obtain ⟨l, h⟩ := hq
    obtain ⟨h1, h2, h3, h4⟩ := dc h
    have hf := field_q b hb hB p l h
    have hr := rquoted_run b hb hB l.length l (p + 1) [] (Nat.le_refl _) h3 (by omega) (by simp)
    have hstart : ∀ {R : Int × ByteArray × Int × Int × Int × Int}, Ev (fun k => gleberef7_field.j0 k b (p : Int) (p : Int) true 5 (⟨#[]⟩ : ByteArray) (p : Int)) R → Ev (fun k => gleberef7_field.f k b (p : Int)) R := by
      intro R hR
      refine Ev.congr (fun k => ?_) hR
      unfold gleberef7_field.f
      rw [if_pos (by omega), if_pos (by omega), h2]
      rfl
    rcases quot_facts b.length l.length l [] (p + 1) (Nat.le_refl _) (by omega) with ⟨a1, a2, m, a3, a4, a5⟩ | ⟨a1, a2, a3, m, a4⟩
    · generalize hrr : quotR b.length [] l (p + 1) = r at hf hr a1 a2 a3
      obtain ⟨t, x, y, z⟩ := r
      simp only at a1 a2 a3
      subst a1 a2 a3
      have hgo : ∀ {R : Int × ByteArray × Int × Int × Int × Int}, Ev (fun k => if (t.size : Int) > 255 then (some (5, t, (p : Int), 0, 2, (p : Int))) else (gleberef7_field.j2 k b (p : Int) (m : Int) 5 t (p : Int))) R → Ev (fun k => gleberef7_field.f k b (p : Int)) R := by
        intro R hR
        refine hstart (Ev.step (f := ?qf1) ?qh1 ?qk1)
        case qh1 =>
          intro k
          simp only [gleberef7_field.j0]
          rw [if_pos trivial, wrap_nat (by omega)]
        refine Ev.bind (g := fun k => gleberef7_quoted.f k b ((p + 1 : Nat) : Int)) hr (Ev.congr (fun k => ?_) hR)
        show (if (-1 : Int) ≥ 0 then _ else _) = _
        rw [if_neg (by omega)]
        rfl
      by_cases hlong : (t.size : Int) > 255
      · refine .inl ⟨t, t, (m : Int), 0, 2, (p : Int), by decide, ?_, ?_⟩
        · unfold fieldE at hf
          simp only [hlong, if_true] at hf
          exact hf
        · refine hgo (Ev.congr (fun k => ?_) (Ev.now _))
          rw [if_pos hlong]
      · refine .inr ⟨t, m, by omega, a5, ?_, ?_⟩
        · unfold fieldE at hf
          simp only [hlong, if_true, if_false] at hf
          exact hf
        · have hj := rj2 b p m a5 t
          rw [if_neg hlong] at hj
          by_cases hs : sepAt b m
          · rw [if_pos hs] at hj
            refine .inl ⟨hs, hgo (Ev.congr (fun k => ?_) hj)⟩
            rw [if_neg hlong]
          · rw [if_neg hs] at hj
            refine .inr ⟨hs, hgo (Ev.congr (fun k => ?_) hj)⟩
            rw [if_neg hlong]
    · generalize hrr : quotR b.length [] l (p + 1) = r at hf hr a1 a2 a3 a4
      obtain ⟨t, x, y, z⟩ := r
      simp only at a1 a2 a3 a4
      subst a1 a2 a3 a4
      refine .inl ⟨(⟨#[]⟩ : ByteArray), (⟨#[]⟩ : ByteArray), 0, 0, 1, (m : Int), by decide, hf, ?_⟩
      refine hstart (Ev.step (f := ?wf2) ?wh2 ?wk2)
      case wh2 =>
        intro k
        simp only [gleberef7_field.j0]
        rw [if_pos trivial, wrap_nat (by omega)]
      refine Ev.bind (g := fun k => gleberef7_quoted.f k b ((p + 1 : Nat) : Int)) hr (Ev.congr (fun k => ?_) (Ev.now _))
      show (if (m : Int) ≥ 0 then _ else _) = _
      rw [if_pos (by omega)]
      rfl
  · have hq' : ∀ l', b.drop p ≠ 34 :: l' := fun l' h => hq ⟨l', h⟩
    have hf := field_o b hb hB p hp _ rfl hq'
    have hlen := drop_len hp rfl
    have htw := tw_len (p := isPl) (b.drop p)
    have hdr : b.drop (p + ((b.drop p).takeWhile isPl).length) = (b.drop p).dropWhile isPl := by
      rw [← List.drop_drop, drop_tw]
    have hstart : ∀ {R : Int × ByteArray × Int × Int × Int × Int}, Ev (fun k => gleberef7_field.j2 k b (p : Int) ((p + ((b.drop p).takeWhile isPl).length : Nat) : Int) 5 (strOfNums ((b.take (p + ((b.drop p).takeWhile isPl).length)).drop p)) (p : Int)) R → Ev (fun k => gleberef7_field.f k b (p : Int)) R := by
      intro R hR
      have h0 := ropen_run b hb p (b.drop p) p rfl hp (Nat.le_refl _) hR
      refine Ev.congr (f := fun k => gleberef7_field.j0 k b (p : Int) (p : Int) false 5 (⟨#[]⟩ : ByteArray) (p : Int)) (fun k => ?_) (Ev.step (fun k => ?_) h0)
      · unfold gleberef7_field.f
        cases hd : b.drop p with
        | nil =>
          have := dn hd hp
          rw [if_neg (by omega)]
        | cons c l =>
          obtain ⟨h1, h2, h3, h4⟩ := dc hd
          have hc : (c == 34) = false := by
            have : c ≠ 34 := fun e => hq' l (by rw [hd, e])
            simpa using this
          rw [if_pos (by omega), if_pos (by omega), h2, hc]
      · simp only [gleberef7_field.j0]
        rw [if_neg (by simp)]
    have hml : p + ((b.drop p).takeWhile isPl).length ≤ b.length := by omega
    have hj := rj2 b p _ hml (strOfNums ((b.take (p + ((b.drop p).takeWhile isPl).length)).drop p))
    have hopen : (sepAt b (p + ((b.drop p).takeWhile isPl).length) → openR b p p (b.drop p) = (strOfNums ((b.take (p + ((b.drop p).takeWhile isPl).length)).drop p), ((p + ((b.drop p).takeWhile isPl).length : Nat) : Int), 0, 0)) ∧ (¬ sepAt b (p + ((b.drop p).takeWhile isPl).length) → openR b p p (b.drop p) = ((⟨#[]⟩ : ByteArray), 0, 1, ((p + ((b.drop p).takeWhile isPl).length : Nat) : Int))) := by
      unfold openR
      cases hd : (b.drop p).dropWhile isPl with
      | nil =>
        rw [hd] at hdr
        have := dn hdr hml
        exact ⟨fun _ => rfl, fun z => absurd (.inl this) z⟩
      | cons c l =>
        rw [hd] at hdr
        obtain ⟨h1, h2, h3, h4⟩ := dc hdr
        by_cases hE : isE c = true
        · have hs : sepAt b (p + ((b.drop p).takeWhile isPl).length) := .inr ⟨h1, by rw [h2]; exact (isE_iff c).1 hE⟩
          simp only [hE, if_true]
          exact ⟨fun _ => trivial, fun z => absurd hs z⟩
        · have hs : ¬ sepAt b (p + ((b.drop p).takeWhile isPl).length) := by
            intro z
            rcases z with z | ⟨_, z⟩
            · omega
            · rw [h2] at z
              exact hE ((isE_iff c).2 z)
          simp only [hE]
          exact ⟨fun z => absurd z hs, fun _ => rfl⟩
    generalize ((b.drop p).takeWhile isPl).length = w at hml hj hopen hstart
    generalize strOfNums ((b.take (p + w)).drop p) = t at hj hopen hstart
    by_cases hs : sepAt b (p + w)
    · rw [hopen.1 hs] at hf
      rw [if_pos hs] at hj
      unfold fieldE at hf
      by_cases hlong : (t.size : Int) > 255
      · rw [if_pos hlong] at hj
        simp only [hlong, if_true] at hf
        exact .inl ⟨t, t, _, 0, 2, (p : Int), by decide, hf, hstart hj⟩
      · rw [if_neg hlong] at hj
        simp only [hlong, if_true, if_false] at hf
        exact .inr ⟨t, p + w, by omega, hml, hf, .inl ⟨hs, hstart hj⟩⟩
    · rw [hopen.2 hs] at hf
      rw [if_neg hs] at hj
      exact .inl ⟨(⟨#[]⟩ : ByteArray), t, 0, 0, 1, _, by decide, hf, hstart hj⟩
/-- What a record comes to, in both. -/
theorem record_both (b : List Int) (hb : b.length ≤ 1000000) (hB : ∀ x ∈ b, 0 ≤ x ∧ x < 256) (out : List (List S59)) (ho : out.length ≤ 1000000) : ∀ (d p : Nat) (row : List S59), b.length - p < d → p ≤ b.length → (p < b.length ∨ row ≠ []) → row.length ≤ p →
    (∃ (X : List S59) (nx kd at_ : Int), kd ≠ 0 ∧ Ev (fun k => csvr_record.l0 k b (p : Int) row) (X, nx, kd, at_) ∧ Ev (fun k => gleberef7_Records.l0 k b out row (p : Int)) (([] : List (List S59)), kd, at_)) ∨
    (∃ (row' : List S59) (m q : Nat), p ≤ m ∧ m ≤ b.length ∧ (p < b.length → p < m) ∧ (m < b.length → q = m) ∧ (m = b.length → m ≤ q ∧ q ≤ m + 1) ∧ row'.length ≤ b.length + 1 ∧ Ev (fun k => csvr_record.l0 k b (p : Int) row) (row', (m : Int), 0, 0) ∧
      ∀ R, Ev (fun k => gleberef7_Records.l0 k b (out ++ [row']) [] (q : Int)) R → Ev (fun k => gleberef7_Records.l0 k b out row (p : Int)) R) := by
  intro d
  induction d with
  | zero => intro p row h; omega
  | succ d ih =>
    intro p row hd hp hg hr
    have hstart : ∀ {R : (List (List S59)) × Int × Int}, Ev (fun k => gleberef7_Records.j1 k b out row (p : Int) true) R → Ev (fun k => gleberef7_Records.l0 k b out row (p : Int)) R := by
      intro R hR
      refine Ev.step (fun k => ?_) hR
      simp only [gleberef7_Records.l0]
      by_cases hl : (p : Int) < (b.length : Int)
      · rw [if_pos hl]
      · have h0 : row ≠ [] := by
          rcases hg with g | g
          · omega
          · exact g
        have : 0 < row.length := List.length_pos_iff.2 h0
        rw [if_neg hl, show decide ((row.length : Int) > 0) = true from decide_eq_true (by omega)]
    rcases field_both b hb hB p hp with ⟨X, Y, nx, nx', kd, at_, hk, e1, e2⟩ | ⟨t, m, hpm, hml, e1, hcase⟩
    · refine .inl ⟨[], 0, kd, at_, hk, ?_, hstart ?_⟩
      · refine Ev.step (f := ?qf3) ?qh3 ?qk3
        case qh3 =>
          intro k
          simp only [csvr_record.l0]
          rfl
        refine Ev.bind (g := fun k => csvr_field.f k b (p : Int)) e1 (Ev.congr (fun k => ?_) (Ev.now _))
        rw [if_neg (by show ¬ kd = 0; exact hk)]
      · refine Ev.step (f := ?wf4) ?wh4 ?wk4
        case wh4 =>
          intro k
          simp only [gleberef7_Records.j1]
          rw [if_pos trivial]
        refine Ev.bind (g := fun k => gleberef7_field.f k b (p : Int)) e2 (Ev.congr (fun k => ?_) (Ev.now _))
        rw [if_neg (by show ¬ kd = 0; exact hk)]
    · have hrow : (row ++ [(⟨5, t, (p : Int)⟩ : S59)]).length ≤ p + 1 := by simp only [List.length_append, List.length_cons, List.length_nil]; omega
      have hprog : ∀ {R : List S59 × Int × Int × Int} (c : Bool), (c = true ↔ m < b.length ∧ rd b (m : Int) = 44) → Ev (fun k => csvr_record.j1 k b (row ++ [(⟨5, t, (p : Int)⟩ : S59)]) (m : Int) c) R → Ev (fun k => csvr_record.l0 k b (p : Int) row) R := by
        intro R c hc hR
        refine Ev.step (f := ?qf5) ?qh5 ?qk5
        case qh5 =>
          intro k
          simp only [csvr_record.l0]
          rfl
        refine Ev.bind (g := fun k => csvr_field.f k b (p : Int)) e1 (Ev.congr (fun k => ?_) hR)
        rw [if_pos (by rfl), if_pos (by omega), Option.bind_some]
        show (if (m : Int) < (b.length : Int) then (if (0 : Int) ≤ (m : Int) then (csvr_record.j1 k b (row ++ [(⟨5, t, (p : Int)⟩ : S59)]) (m : Int) ((rd b (m : Int)) == 44)) else none) else _) = _
        by_cases hl : m < b.length
        · rw [if_pos (by omega), if_pos (by omega)]
          have : (rd b (m : Int) == 44) = c := by
            cases c with
            | true => simp [(hc.1 rfl).2]
            | false =>
              by_cases e : rd b (m : Int) = 44
              · have := hc.2 ⟨hl, e⟩; cases this
              · simp [e]
          rw [this]
        · have : c = false := by
            cases c with
            | false => rfl
            | true => exact absurd (hc.1 rfl).1 hl
          rw [if_neg (by omega), this]
      rcases hcase with ⟨hs, e2⟩ | ⟨hs, e2⟩
      · have href : ∀ {R : (List (List S59)) × Int × Int} (c : Bool), (c = true ↔ m < b.length ∧ rd b (m : Int) = 44) → Ev (fun k => gleberef7_Records.j2 k b out (row ++ [(⟨5, t, (p : Int)⟩ : S59)]) (m : Int) c) R → Ev (fun k => gleberef7_Records.l0 k b out row (p : Int)) R := by
          intro R c hc hR
          refine hstart (Ev.step (f := ?wf6) ?wh6 ?wk6)
          case wh6 =>
            intro k
            simp only [gleberef7_Records.j1]
            rw [if_pos trivial]
          refine Ev.bind (g := fun k => gleberef7_field.f k b (p : Int)) e2 (Ev.congr (fun k => ?_) hR)
          rw [if_pos (by rfl), if_pos (by omega), Option.bind_some]
          show (if (m : Int) < (b.length : Int) then (if (0 : Int) ≤ (m : Int) then (gleberef7_Records.j2 k b out (row ++ [(⟨5, t, (p : Int)⟩ : S59)]) (m : Int) ((rd b (m : Int)) == 44)) else none) else _) = _
          by_cases hl : m < b.length
          · rw [if_pos (by omega), if_pos (by omega)]
            have : (rd b (m : Int) == 44) = c := by
              cases c with
              | true => simp [(hc.1 rfl).2]
              | false =>
                by_cases e : rd b (m : Int) = 44
                · have := hc.2 ⟨hl, e⟩; cases this
                · simp [e]
            rw [this]
          · have : c = false := by
              cases c with
              | false => rfl
              | true => exact absurd (hc.1 rfl).1 hl
            rw [if_neg (by omega), this]
        by_cases h44 : m < b.length ∧ rd b (m : Int) = 44
        · have hp1 : ∀ {R : List S59 × Int × Int × Int}, Ev (fun k => csvr_record.l0 k b ((m + 1 : Nat) : Int) (row ++ [(⟨5, t, (p : Int)⟩ : S59)])) R → Ev (fun k => csvr_record.l0 k b (p : Int) row) R := by
            intro R hR
            refine hprog true ⟨fun _ => h44, fun _ => rfl⟩ (Ev.step (fun k => ?_) hR)
            simp only [csvr_record.j1]
            rw [if_pos trivial, wrap_nat (by omega)]
          have hp2 : ∀ {R : (List (List S59)) × Int × Int}, Ev (fun k => gleberef7_Records.l0 k b out (row ++ [(⟨5, t, (p : Int)⟩ : S59)]) ((m + 1 : Nat) : Int)) R → Ev (fun k => gleberef7_Records.l0 k b out row (p : Int)) R := by
            intro R hR
            refine href true ⟨fun _ => h44, fun _ => rfl⟩ (Ev.step (fun k => ?_) hR)
            simp only [gleberef7_Records.j2]
            rw [if_pos trivial, wrap_nat (by omega)]
          rcases ih (m + 1) (row ++ [(⟨5, t, (p : Int)⟩ : S59)]) (by omega) (by omega) (.inr (by simp)) (by omega) with ⟨X, nx, kd, at_, hk, i1, i2⟩ | ⟨row', m', q, i1, i2, i3, i4, i5, i6, i7, i8⟩
          · exact .inl ⟨X, nx, kd, at_, hk, hp1 i1, hp2 i2⟩
          · exact .inr ⟨row', m', q, by omega, i2, fun _ => by omega, i4, i5, i6, hp1 i7, fun R hR => hp2 (i8 R hR)⟩
        · have hend : ∀ {R : List S59 × Int × Int × Int}, Ev (fun k => (csvr_end.f b (m : Int)).bind fun bt160 => (if bt160.2 = true then (some (row ++ [(⟨5, t, (p : Int)⟩ : S59)], bt160.1, 0, 0)) else (some (([] : List (S59)), 0, 1, bt160.1)))) R → Ev (fun k => csvr_record.l0 k b (p : Int) row) R := by
            intro R hR
            refine hprog false ⟨fun z => (by cases z), fun z => absurd z h44⟩ (Ev.step (fun k => ?_) hR)
            simp only [csvr_record.j1]
            rw [if_neg (by simp)]
          have href2 : ∀ {R : (List (List S59)) × Int × Int} (c : Bool), (c = true ↔ m < b.length ∧ rd b (m : Int) = 13) → Ev (fun k => gleberef7_Records.j3 k b (out ++ [row ++ [(⟨5, t, (p : Int)⟩ : S59)]]) [] (m : Int) c) R → Ev (fun k => gleberef7_Records.l0 k b out row (p : Int)) R := by
            intro R c hc hR
            refine href false ⟨fun z => (by cases z), fun z => absurd z h44⟩ (Ev.step (fun k => ?_) hR)
            simp only [gleberef7_Records.j2]
            rw [if_neg (by simp), if_pos (by omega), Option.bind_some]
            by_cases hl : m < b.length
            · rw [if_pos (by omega), if_pos (by omega)]
              have : (rd b (m : Int) == 13) = c := by
                cases c with
                | true => simp [(hc.1 rfl).2]
                | false =>
                  by_cases e : rd b (m : Int) = 13
                  · have := hc.2 ⟨hl, e⟩; cases this
                  · simp [e]
              rw [this]
            · have : c = false := by
                cases c with
                | false => rfl
                | true => exact absurd (hc.1 rfl).1 hl
              rw [if_neg (by omega), this]
          rcases hs with hs | ⟨hs, h | h | h⟩
          · refine .inr ⟨row ++ [(⟨5, t, (p : Int)⟩ : S59)], m, m + 1, hpm, hml, fun _ => by omega, fun _ => by omega, fun _ => by omega, by omega, hend (Ev.congr (fun k => ?_) (Ev.now _)), fun R hR => href2 false ⟨fun z => (by cases z), fun z => by omega⟩ (Ev.step (fun k => ?_) hR)⟩
            · unfold csvr_end.f
              rw [if_pos (by omega), Option.bind_some, if_pos rfl]
            · simp only [gleberef7_Records.j3]
              rw [if_neg (by simp), wrap_nat (by omega)]
          · exact absurd ⟨hs, h⟩ h44
          · refine .inr ⟨row ++ [(⟨5, t, (p : Int)⟩ : S59)], m + 1, m + 1, by omega, by omega, fun _ => by omega, fun _ => rfl, fun _ => by omega, by omega, hend (Ev.congr (fun k => ?_) (Ev.now _)), fun R hR => href2 false ⟨fun z => (by cases z), fun z => by omega⟩ (Ev.step (fun k => ?_) hR)⟩
            · unfold csvr_end.f
              rw [if_neg (by omega), if_pos (by omega), if_pos (by omega), if_pos h, Option.bind_some, if_pos rfl, wrap_nat (by omega)]
            · simp only [gleberef7_Records.j3]
              rw [if_neg (by simp), wrap_nat (by omega)]
          · by_cases h10 : m + 1 < b.length ∧ rd b ((m + 1 : Nat) : Int) = 10
            · refine .inr ⟨row ++ [(⟨5, t, (p : Int)⟩ : S59)], m + 2, m + 2, by omega, by omega, fun _ => by omega, fun _ => rfl, fun _ => by omega, by omega, hend (Ev.congr (fun k => ?_) (Ev.now _)), fun R hR => href2 true ⟨fun _ => ⟨hs, h⟩, fun _ => rfl⟩ (Ev.step (fun k => ?_) hR)⟩
              · unfold csvr_end.f
                rw [if_neg (by omega), if_pos (by omega), if_pos (by omega), if_neg (by omega), if_pos h, wrap_nat (by omega), if_pos (by omega), if_pos (by omega), if_pos h10.2, Option.bind_some, if_pos rfl, wrap_in (by omega) (by omega)]
                rfl
              · simp only [gleberef7_Records.j3]
                rw [if_pos trivial, wrap_nat (by omega), if_neg (by omega), if_pos (by omega), if_pos (by omega), if_pos h10.2, wrap_nat (by omega)]
            · refine .inl ⟨[], 0, 1, ((m + 1 : Nat) : Int), by decide, hend (Ev.congr (fun k => ?_) (Ev.now _)), href2 true ⟨fun _ => ⟨hs, h⟩, fun _ => rfl⟩ (Ev.step (f := fun _ => some _) (fun k => ?_) (Ev.now _))⟩
              · unfold csvr_end.f
                rw [if_neg (by omega), if_pos (by omega), if_pos (by omega), if_neg (by omega), if_pos h, wrap_nat (by omega)]
                by_cases hl : m + 1 < b.length
                · rw [if_pos (by omega), if_pos (by omega), if_neg (fun z => h10 ⟨hl, z⟩), Option.bind_some, if_neg (by simp)]
                · rw [if_neg (by omega), Option.bind_some, if_neg (by simp)]
              · simp only [gleberef7_Records.j3]
                unfold gleberef7_syntax.f
                rw [if_pos trivial, wrap_nat (by omega)]
                by_cases hl : m + 1 < b.length
                · rw [if_neg (by omega), if_pos (by omega), if_pos (by omega), if_neg (fun z => h10 ⟨hl, z⟩), Option.bind_some]
                · rw [if_pos (by omega), Option.bind_some]
      · have hml2 : m < b.length := by
          by_cases z : m < b.length
          · exact z
          · exact absurd (.inl (by omega)) hs
        have n44 : rd b (m : Int) ≠ 44 := fun z => hs (.inr ⟨hml2, .inl z⟩)
        have n10 : rd b (m : Int) ≠ 10 := fun z => hs (.inr ⟨hml2, .inr (.inl z)⟩)
        have n13 : rd b (m : Int) ≠ 13 := fun z => hs (.inr ⟨hml2, .inr (.inr z)⟩)
        refine .inl ⟨[], 0, 1, (m : Int), by decide, hprog false ⟨fun z => (by cases z), fun z => absurd z.2 n44⟩ (Ev.step (f := fun _ => some _) (fun k => ?_) (Ev.now _)), hstart ?_⟩
        · simp only [csvr_record.j1]
          unfold csvr_end.f
          rw [if_neg (by simp), if_neg (by omega), if_pos (by omega), if_pos (by omega), if_neg n10, if_neg n13, Option.bind_some, if_neg (by simp)]
        · refine Ev.step (f := ?wf7) ?wh7 ?wk7
          case wh7 =>
            intro k
            simp only [gleberef7_Records.j1]
            rw [if_pos trivial]
          refine Ev.bind (g := fun k => gleberef7_field.f k b (p : Int)) e2 (Ev.congr (fun k => ?_) (Ev.now _))
          rw [if_neg (by show ¬ (1 : Int) = 0; decide)]
theorem parse_both (b : List Int) (hb : b.length ≤ 1000000) (hB : ∀ x ∈ b, 0 ≤ x ∧ x < 256) : ∀ (d p q : Nat) (out : List (List S59)), b.length - p ≤ d → p ≤ b.length → (p < b.length → q = p) → (p = b.length → p ≤ q ∧ q ≤ p + 1) → out.length ≤ p → (∀ r ∈ out, r.length ≤ 1000001) →
    ∃ R : (List (List S59)) × Int × Int, Ev (fun k => csvr_Parse.l0 k b out (p : Int)) R ∧ Ev (fun k => gleberef7_Records.l0 k b out [] (q : Int)) R ∧ R.1.length ≤ 1000000 ∧ ∀ r ∈ R.1, r.length ≤ 1000001 := by
  have hend : ∀ (p q : Nat) (out : List (List S59)), p = b.length → p ≤ q → out.length ≤ p → (∀ r ∈ out, r.length ≤ 1000001) → ∃ R : (List (List S59)) × Int × Int, Ev (fun k => csvr_Parse.l0 k b out (p : Int)) R ∧ Ev (fun k => gleberef7_Records.l0 k b out [] (q : Int)) R ∧ R.1.length ≤ 1000000 ∧ ∀ r ∈ R.1, r.length ≤ 1000001 := by
    intro p q out hp hq ho hro
    refine ⟨(out, 0, 0), Ev.step (f := fun _ => some _) (fun k => ?_) (Ev.now _), Ev.step (f := fun k => gleberef7_Records.j1 k b out [] (q : Int) false) (fun k => ?_) (Ev.step (f := fun _ => some _) (fun k => ?_) (Ev.now _)), by show out.length ≤ _; omega, hro⟩
    · simp only [csvr_Parse.l0]
      rw [if_neg (by omega)]
    · simp only [gleberef7_Records.l0]
      rw [if_neg (by omega)]
      rfl
    · simp only [gleberef7_Records.j1]
      rw [if_neg (by simp)]
  intro d
  induction d with
  | zero =>
    intro p q out hd hp hq1 hq2 ho hro
    exact hend p q out (by omega) (hq2 (by omega)).1 ho hro
  | succ d ih =>
    intro p q out hd hp hq1 hq2 ho hro
    by_cases hl : p < b.length
    · obtain rfl := hq1 hl
      rcases record_both b hb hB out (by omega) (b.length - q + 1) q [] (by omega) hp (.inl hl) (Nat.zero_le _) with ⟨X, nx, kd, at_, hk, i1, i2⟩ | ⟨row', m, q', i1, i2, i3, i4, i5, i6, i7, i8⟩
      · refine ⟨([], kd, at_), ?_, i2, Nat.zero_le _, fun r hr => by cases hr⟩
        refine Ev.step (f := ?qf8) ?qh8 ?qk8
        case qh8 =>
          intro k
          simp only [csvr_Parse.l0]
          rw [if_pos (by omega)]
        refine Ev.bind (g := fun k => csvr_record.f k b (q : Int)) i1 (Ev.congr (fun k => ?_) (Ev.now _))
        rw [if_neg (by show ¬ kd = 0; exact hk)]
      · obtain ⟨R, r1, r2, r3, r4⟩ := ih m q' (out ++ [row']) (by have := i3 hl; omega) i2 i4 i5 (by have := i3 hl; simp only [List.length_append, List.length_cons, List.length_nil]; omega) (by
          intro r hr
          rcases List.mem_append.1 hr with hr | hr
          · exact hro r hr
          · rcases List.mem_cons.1 hr with hr | hr
            · rw [hr]; omega
            · cases hr)
        refine ⟨R, ?_, i8 R r2, r3, r4⟩
        refine Ev.step (f := ?wf9) ?wh9 ?wk9
        case wh9 =>
          intro k
          simp only [csvr_Parse.l0]
          rw [if_pos (by omega)]
        refine Ev.bind (g := fun k => csvr_record.f k b (q : Int)) i7 (Ev.congr (fun k => ?_) r1)
        rw [if_pos (by rfl), if_pos (by omega)]
    · exact hend p q out (by omega) (hq2 (by omega)).1 ho hro
/-- Both readers, of any bytes. -/
theorem records_both (b : List Int) (hb : b.length ≤ 1000000) (hB : ∀ x ∈ b, 0 ≤ x ∧ x < 256) : ∃ R : (List (List S59)) × Int × Int, Ev (fun k => csvr_Parse.f k b) R ∧ Ev (fun k => gleberef7_Records.f k b) R ∧ R.1.length ≤ 1000000 ∧ ∀ r ∈ R.1, r.length ≤ 1000001 := by
  obtain ⟨R, r1, r2, r3⟩ := parse_both b hb hB b.length 0 0 [] (by omega) (Nat.zero_le _) (fun _ => rfl) (fun _ => by omega) (Nat.le_refl _) (fun r hr => by cases hr)
  refine ⟨R, Ev.congr (fun k => ?_) r1, Ev.congr (fun k => ?_) r2, r3⟩
  · unfold csvr_Parse.f scan_Long.f
    rw [if_neg (by omega), Option.bind_some, if_neg (by simp)]
    rfl
  · unfold gleberef7_Records.f gleberef7_Long.f
    rw [if_neg (by omega), Option.bind_some, if_neg (by simp)]
    rfl
end Go.Proofs.YtcgchblljhbdaaaDoor.CsvR
