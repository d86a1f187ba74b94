/- Fields are as long as may be, and no longer, in quotes, too; what is longer is told at its first byte. -/
import Derived.Test.YtcgchblljhbdaaaDoorCx6
import Derived.Test.YtcgchblljhbdaaaDoorCx8
import Derived.Test.YtcgchblljhbdaaaDoorCsvS
namespace Go.Proofs.YtcgchblljhbdaaaDoor.Pure
open Go Go.RowKit Go.Proofs.YtcgchblljhbdaaaDoor.C Go.Proofs.YtcgchblljhbdaaaDoorW.PrintWords Go.Proofs.YtcgchblljhbdaaaDoorW.PrintMore Go.Proofs.YtcgchblljhbdaaaDoorW.PrintLast Go.Proofs.YtcgchblljhbdaaaDoor.PL Go.Proofs.YtcgchblljhbdaaaDoor.PB Go.Proofs.YtcgchblljhbdaaaDoor.CsvS
set_option linter.unusedSimpArgs false
set_option linter.unusedVariables false
theorem awC : Ev (fun k => glebelaw9_awake.f k) true := Ev.of (fun k => glebelaw9_awake.mono k) (k := 200) (by kernel_rfl)
theorem finC : Ev (fun k => (glebelaw9_awake.f k).bind fun t => some t) true := Ev.bind (g := fun k => glebelaw9_awake.f k) awC (Ev.now _)
def aS (n : Nat) : List Int := List.replicate n 97
theorem tw_aS (n : Nat) (c : Int) (l : List Int) (hc : isPl c = false) : (aS n ++ c :: l).takeWhile isPl = aS n ∧ (aS n ++ c :: l).dropWhile isPl = c :: l := by
  have h97 : isPl 97 = true := by decide
  induction n with
  | zero => simp [aS, List.takeWhile_cons, List.dropWhile_cons, hc]
  | succ n ih =>
    have e : aS (n + 1) ++ c :: l = 97 :: (aS n ++ c :: l) := by simp [aS, List.replicate_succ]
    rw [e, List.takeWhile_cons, if_pos h97, List.dropWhile_cons, if_pos h97, ih.1, ih.2]
    exact ⟨by simp [aS, List.replicate_succ], rfl⟩
theorem quot_aS (L : Nat) (n : Nat) : ∀ (acc : List Int) (l : List Int) (p : Nat), quotR L acc (aS n ++ l) p = quotR L (acc ++ aS n) l (p + n) := by
  induction n with
  | zero => intro acc l p; simp [aS]
  | succ n ih =>
    intro acc l p
    have e : aS (n + 1) ++ l = 97 :: (aS n ++ l) := by simp [aS, List.replicate_succ]
    rw [e, quotR_c _ _ _ _ _ (by decide), if_pos (.inl (by decide)), ih]
    have e2 : acc ++ [97] ++ aS n = acc ++ aS (n + 1) := by simp [aS, List.replicate_succ]
    have e3 : p + 1 + n = p + (n + 1) := by omega
    rw [e2, e3]
theorem aS_byte (n : Nat) : ∀ x ∈ aS n, 0 ≤ x ∧ x < 256 := by
  intro x hx
  have := List.eq_of_mem_replicate hx
  omega
def sF (q : Bool) (n : Nat) : List Int := if q = true then 34 :: (aS n ++ [34]) else aS n
theorem second (q : Bool) (n : Nat) (hn : n < 512) (b : List Int) (hb : b = 120 :: 44 :: (sF q n ++ [10])) : Ev (fun k => csvr_field.f k b ((2 : Nat) : Int)) (fieldE 2 (strOfNums (aS n), ((b.length - 1 : Nat) : Int), 0, 0)) := by
  have hbl : b.length = (sF q n).length + 3 := by rw [hb]; simp
  have hsl : (sF q n).length ≤ n + 2 := by unfold sF; split <;> simp [aS]
  have hB : ∀ x ∈ b, 0 ≤ x ∧ x < 256 := by
    intro x hx
    rw [hb] at hx
    have h1 := aS_byte n x
    have : x = 120 ∨ x = 44 ∨ x ∈ sF q n ∨ x = 10 := by simpa using hx
    rcases this with h | h | h | h
    · omega
    · omega
    · unfold sF at h
      split at h
      · have : x = 34 ∨ x ∈ aS n ∨ x = 34 := by simpa using h
        rcases this with h | h | h
        · omega
        · exact h1 h
        · omega
      · exact h1 h
    · omega
  have hd : b.drop 2 = sF q n ++ [10] := by rw [hb]; rfl
  cases q with
  | true =>
    have e : sF true n ++ [10] = 34 :: (aS n ++ [34, 10]) := by simp [sF]
    have hbl2 : b.length = n + 5 := by rw [hbl]; simp [sF, aS]
    rw [e] at hd
    have := field_q b (by omega) hB 2 _ hd
    rw [quot_aS, quotR_q1 _ _ _ _ (fun l' h => by injection h with a _; exact absurd a (by decide))] at this
    have e2 : ((2 + 1 + n + 1 : Nat) : Int) = ((b.length - 1 : Nat) : Int) := by omega
    rw [e2] at this
    simpa using this
  | false =>
    have e : sF false n ++ [10] = aS n ++ [10] := by simp [sF]
    have hbl2 : b.length = n + 3 := by rw [hbl]; simp [sF, aS]
    rw [e] at hd
    have hq : ∀ l', aS n ++ [10] ≠ 34 :: l' := by
      intro l' h
      cases n with
      | zero => simp [aS] at h
      | succ n => simp [aS, List.replicate_succ] at h
    have := field_o b (by omega) hB 2 (by omega) _ hd hq
    obtain ⟨t1, t2⟩ := tw_aS n 10 [] (by decide)
    unfold openR at this
    rw [t1, t2] at this
    have hE : isE 10 = true := by decide
    simp only [hE, if_true] at this
    have e2 : ((2 + (aS n).length : Nat) : Int) = ((b.length - 1 : Nat) : Int) := by simp [aS]; omega
    have e3 : (b.take (2 + (aS n).length)).drop 2 = aS n := by
      rw [List.drop_take, hd, show 2 + (aS n).length - 2 = (aS n).length by omega, List.take_left']
      rfl
    rw [e2, e3] at this
    exact this
theorem first (q : Bool) (n : Nat) (hn : n < 512) (b : List Int) (hb : b = 120 :: 44 :: (sF q n ++ [10])) (hB : ∀ x ∈ b, 0 ≤ x ∧ x < 256) (hbl : b.length ≤ 1000) : Ev (fun k => csvr_field.f k b ((0 : Nat) : Int)) (5, strOfNums [120], 0, 1, 0, 0) := by
  have hd : b.drop 0 = 120 :: 44 :: (sF q n ++ [10]) := hb
  have := field_o b (by omega) hB 0 (by omega) _ hd (fun l' h => by injection h with a _; exact absurd a (by decide))
  unfold openR at this
  have h1 : isPl 120 = true := by decide
  have h2 : isPl 44 = false := by decide
  have hE : isE 44 = true := by decide
  rw [List.takeWhile_cons, if_pos h1, List.takeWhile_cons, if_neg (by simp [h2]), List.dropWhile_cons, if_pos h1, List.dropWhile_cons, if_neg (by simp [h2])] at this
  simp only [hE, if_true] at this
  have e3 : (b.take (0 + [(120 : Int)].length)).drop 0 = [120] := by rw [hb]; rfl
  rw [e3] at this
  have e4 : (strOfNums [120]).size = 1 := by rw [size_strOf]; rfl
  unfold fieldE at this
  simp only [e4] at this
  exact this
theorem parse_long (q : Bool) (n : Nat) (hn : n < 512) (b : List Int) (hb : b = 120 :: 44 :: (sF q n ++ [10])) (hB : ∀ x ∈ b, 0 ≤ x ∧ x < 256) (hbl : b.length ≤ 1000) (hb5 : 3 ≤ b.length) :
    Ev (fun k => csvr_Parse.f k b) (if n > 255 then (([] : List (List S59)), 2, 2) else ([[(⟨5, strOfNums [120], 0⟩ : S59), ⟨5, strOfNums (aS n), 2⟩]], 0, 0)) := by
  have hsz : (strOfNums (aS n)).size = n := by rw [size_strOf]; simp [aS]
  have hf1 := first q n hn b hb hB hbl
  have hf2 := second q n hn b hb
  have r1 : rd b 1 = 44 := by rw [hb]; rfl
  have rl : rd b ((b.length - 1 : Nat) : Int) = 10 := by
    have hl : (b.length - 1) = (sF q n).length + 2 := by rw [hb]; simp
    rw [hl]
    have hd : b.drop ((sF q n).length + 2) = [10] := by rw [hb]; simp
    exact (dc hd).2.1
  refine Ev.congr (f := fun k => csvr_Parse.l0 k b ([] : List (List S59)) ((0 : Nat) : Int)) (fun k => ?_) ?_
  · unfold csvr_Parse.f scan_Long.f
    rw [if_neg (by omega), Option.bind_some, if_neg (by simp)]
    rfl
  have hrec : Ev (fun k => csvr_record.f k b ((0 : Nat) : Int)) (if n > 255 then (([] : List S59), 0, 2, 2) else ([(⟨5, strOfNums [120], 0⟩ : S59), ⟨5, strOfNums (aS n), 2⟩], (b.length : Int), 0, 0)) := by
    refine Ev.step (g := fun k => csvr_record.l0 k b ((0 : Nat) : Int) []) (f := ?qf0) ?qh0 ?qk0
    case qh0 =>
      intro k
      simp only [csvr_record.l0]
      rfl
    refine Ev.bind (g := fun k => csvr_field.f k b ((0 : Nat) : Int)) hf1 ?_
    refine Ev.congr (f := fun k => csvr_record.j1 k b [(⟨5, strOfNums [120], 0⟩ : S59)] 1 true) (fun k => ?_) (Ev.step (f := fun k => csvr_record.l0 k b ((2 : Nat) : Int) [(⟨5, strOfNums [120], 0⟩ : S59)]) (fun k => ?_) ?_)
    · rw [if_pos (by rfl), if_pos (by decide), Option.bind_some]
      show (if (1 : Int) < (b.length : Int) then (if (0 : Int) ≤ 1 then (csvr_record.j1 k b ([] ++ [(⟨5, strOfNums [120], 0⟩ : S59)]) 1 ((rd b 1) == 44)) else none) else _) = _
      rw [if_pos (by omega), if_pos (by omega), r1]
      rfl
    · simp only [csvr_record.j1]
      rw [if_pos trivial, wrap_in (by omega) (by omega)]
      rfl
    refine Ev.step (f := ?qf1) ?qh1 ?qk1
    case qh1 =>
      intro k
      simp only [csvr_record.l0]
      rfl
    refine Ev.bind (g := fun k => csvr_field.f k b ((2 : Nat) : Int)) hf2 ?_
    by_cases hbig : n > 255
    · rw [if_pos hbig]
      have e : fieldE 2 (strOfNums (aS n), ((b.length - 1 : Nat) : Int), 0, 0) = (5, strOfNums (aS n), 2, ((b.length - 1 : Nat) : Int), 2, 2) := by
        unfold fieldE
        simp only [hsz]
        rw [if_pos trivial, if_pos (by omega)]
      rw [e]
      refine Ev.congr (fun k => ?_) (Ev.now _)
      rw [if_neg (by show ¬ ((2 : Int) = 0); omega)]
    · rw [if_neg hbig]
      have e : fieldE 2 (strOfNums (aS n), ((b.length - 1 : Nat) : Int), 0, 0) = (5, strOfNums (aS n), 2, ((b.length - 1 : Nat) : Int), 0, 0) := by
        unfold fieldE
        simp only [hsz]
        rw [if_pos trivial, if_neg (by omega)]
      rw [e]
      refine Ev.congr (f := fun k => csvr_record.j1 k b [(⟨5, strOfNums [120], 0⟩ : S59), ⟨5, strOfNums (aS n), 2⟩] ((b.length - 1 : Nat) : Int) false) (fun k => ?_) (Ev.step (f := fun _ => some _) (fun k => ?_) (Ev.now _))
      · rw [if_pos (by rfl), if_pos (by decide), Option.bind_some]
        show (if ((b.length - 1 : Nat) : Int) < (b.length : Int) then (if (0 : Int) ≤ ((b.length - 1 : Nat) : Int) then (csvr_record.j1 k b ([(⟨5, strOfNums [120], 0⟩ : S59)] ++ [(⟨5, strOfNums (aS n), 2⟩ : S59)]) ((b.length - 1 : Nat) : Int) ((rd b ((b.length - 1 : Nat) : Int)) == 44)) else none) else _) = _
        rw [if_pos (by omega), if_pos (by omega), rl]
        rfl
      · have he : csvr_end.f b ((b.length - 1 : Nat) : Int) = some ((b.length : Int), true) := by
          unfold csvr_end.f
          rw [if_neg (by omega), if_pos (by omega), if_pos (by omega), rl, if_pos rfl, wrap_nat (by omega)]
          congr 3
          omega
        simp only [csvr_record.j1]
        rw [if_neg (by simp), he, Option.bind_some, if_pos rfl]
  refine Ev.step (f := ?qf2) ?qh2 ?qk2
  case qh2 =>
    intro k
    simp only [csvr_Parse.l0]
    rw [if_pos (by omega)]
  refine Ev.bind (g := fun k => csvr_record.f k b ((0 : Nat) : Int)) hrec ?_
  by_cases hbig : n > 255
  · rw [if_pos hbig, if_pos hbig]
    refine Ev.congr (fun k => ?_) (Ev.now _)
    rw [if_neg (by show ¬ ((2 : Int) = 0); omega)]
  · rw [if_neg hbig, if_neg hbig]
    refine Ev.congr (f := fun k => csvr_Parse.l0 k b [[(⟨5, strOfNums [120], 0⟩ : S59), ⟨5, strOfNums (aS n), 2⟩]] (b.length : Int)) (fun k => ?_) (Ev.step (f := fun _ => some _) (fun k => ?_) (Ev.now _))
    · rw [if_pos (by rfl), if_pos (by decide)]
      rfl
    · simp only [csvr_Parse.l0]
      rw [if_neg (by omega)]
theorem long_fin (n : Nat) (hn : n < 512) (q : Bool) (s : ByteArray) (hs : bytesOf s = sF q n) : Ev (fun k => glebelaw9_CsvrLong.j1 k (n : Int) s) true := by
  have hsl : (sF q n).length ≤ n + 2 := by unfold sF; split <;> simp [aS]
  have hsz : s.size = (sF q n).length := by rw [← hs, len_bytes]
  have eb : bytesOf (((⟨#[120, 44]⟩ : ByteArray) ++ s) ++ (⟨#[10]⟩ : ByteArray)) = 120 :: 44 :: (sF q n ++ [10]) := by
    rw [bytesOf_app, bytesOf_app, hs]
    rfl
  have hB : ∀ x ∈ (120 :: 44 :: (sF q n ++ [10])), 0 ≤ x ∧ x < 256 := by rw [← eb]; exact bytesOf_byte _
  have hp := parse_long q n hn _ rfl hB (by simp; omega) (by simp)
  have hz : (strOfNums (aS n)).size = n := by rw [size_strOf]; simp [aS]
  refine Ev.step (f := ?qf0) ?qh0 ?qk0
  case qh0 =>
    intro k
    simp only [glebelaw9_CsvrLong.j1]
    rw [if_pos (by omega), if_pos (by omega), eb]
  refine Ev.bind (g := fun k => csvr_Parse.f k (120 :: 44 :: (sF q n ++ [10]))) hp ?_
  by_cases hbig : n > 255
  · rw [if_pos hbig]
    refine Ev.congr (fun k => ?_) finC
    rw [if_pos (by omega), if_pos (by rfl), if_pos (by rfl)]
  · rw [if_neg hbig]
    refine Ev.congr (fun k => ?_) finC
    rw [if_neg (by omega), if_pos (by rfl), if_pos (by rfl), if_pos (by show (0 : Int) < 1; omega), if_pos (by rfl), if_pos (by show (1 : Int) < 2; omega)]
    rw [if_pos (by show ((strOfNums (aS n)).size : Int) = (n : Int); rw [hz])]
theorem long_loop (n : Nat) (hn : n < 512) (q : Bool) : ∀ (d i : Nat), i + d = n → Ev (fun k => glebelaw9_CsvrLong.l0 k (n : Int) q (strOfNums (aS i)) (i : Int)) true := by
  have hz : ∀ i, (strOfNums (aS i)).size = i := fun i => by rw [size_strOf]; simp [aS]
  intro d
  induction d with
  | zero =>
    intro i hi
    obtain rfl : i = n := by omega
    have hzi := hz i
    have hb : bytesOf (strOfNums (aS i)) = aS i := bytesOf_strOf _ (aS_byte i)
    cases q with
    | true =>
      refine Ev.step (fun k => ?_) (long_fin i hn true ((⟨#[34]⟩ : ByteArray) ++ strOfNums (aS i) ++ (⟨#[34]⟩ : ByteArray)) (by rw [bytesOf_app, bytesOf_app, hb]; rfl))
      simp only [glebelaw9_CsvrLong.l0]
      rw [if_neg (by omega), if_pos trivial, if_pos (by omega), if_pos (by omega)]
    | false =>
      refine Ev.step (fun k => ?_) (long_fin i hn false (strOfNums (aS i)) hb)
      simp only [glebelaw9_CsvrLong.l0]
      rw [if_neg (by omega), if_neg (by simp)]
  | succ d ih =>
    intro i hi
    have hzi := hz i
    refine Ev.step (f := fun k => glebelaw9_CsvrLong.l0 k (n : Int) q (strOfNums (aS (i + 1))) ((i + 1 : Nat) : Int)) (fun k => ?_) (ih (i + 1) (by omega))
    have e1 : strOfNums (aS (i + 1)) = strOfNums (aS i) ++ (⟨#[97]⟩ : ByteArray) := by
      have : aS (i + 1) = aS i ++ [97] := by simp [aS, List.replicate_succ']
      rw [this, strOf_app]
      rfl
    rw [e1]
    simp only [glebelaw9_CsvrLong.l0]
    rw [if_pos (by omega), if_pos (by omega), wrap_nat (by omega)]
theorem CsvrLong : glebelaw9_CsvrLong.Pure := by
  intro a0 a1 h
  apply Ev.rounds
  have hn : (a0 % 512).toNat < 512 := by omega
  refine Ev.congr (fun k => ?_) (long_loop (a0 % 512).toNat hn a1 (a0 % 512).toNat 0 (by omega))
  unfold glebelaw9_CsvrLong.f
  rw [and511]
  have e : (a0 % 512) = (((a0 % 512).toNat : Nat) : Int) := by omega
  rw [← e]
  rfl
end Go.Proofs.YtcgchblljhbdaaaDoor.Pure
