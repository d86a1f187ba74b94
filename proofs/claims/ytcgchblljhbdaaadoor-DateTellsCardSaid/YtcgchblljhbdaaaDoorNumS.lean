/- Numbers told and read: what the program and the document both come to. -/
import Derived.Test.YtcgchblljhbdaaaDoorZx2
import Derived.Test.YtcgchblljhbdaaaDoorZx3
import Derived.Test.YtcgchblljhbdaaaDoorZx6
import Derived.Test.YtcgchblljhbdaaaDoorZx8
import Derived.Test.YtcgchblljhbdaaaDoorPB
namespace Go.Proofs.YtcgchblljhbdaaaDoor.NumS
open Go Go.RowKit Go.Proofs.YtcgchblljhbdaaaDoorW.PrintWords Go.Proofs.YtcgchblljhbdaaaDoorW.PrintMore Go.Proofs.YtcgchblljhbdaaaDoor.PL Go.Proofs.YtcgchblljhbdaaaDoor.PB Go.Proofs.YtcgchblljhbdaaaDoor.Z
set_option linter.unusedSimpArgs false
set_option linter.unusedVariables false
def isD (c : Int) : Bool := decide (48 ≤ c) && decide (c ≤ 57)
theorem isD_iff (c : Int) : isD c = true ↔ 48 ≤ c ∧ c ≤ 57 := by simp [isD]
def valL (n : Int) : List Int → Int
  | [] => n
  | c :: l => valL (10 * n + (c - 48)) l
theorem valL_app : ∀ (a b : List Int) (n : Int), valL n (a ++ b) = valL (valL n a) b := by
  intro a
  induction a with
  | nil => intro b n; rfl
  | cons c a ih => intro b n; exact ih b _
theorem valL_ge : ∀ (l : List Int) (n : Int), l.all isD = true → 0 ≤ n → n ≤ valL n l := by
  intro l
  induction l with
  | nil => intro n _ _; exact Int.le_refl _
  | cons c l ih =>
    intro n h h0
    rw [List.all_cons, Bool.and_eq_true, isD_iff] at h
    have := ih (10 * n + (c - 48)) h.2 (by omega)
    show n ≤ valL (10 * n + (c - 48)) l
    omega
def digs (u : Nat) : List Int := (Lib.decDigits u).map fun b => (b.toNat : Int)
theorem digs_small {u : Nat} (h : u < 10) : digs u = [48 + (u : Int)] := by
  unfold digs
  rw [Lib.decDigits_one h]
  show [(((UInt8.ofNat (48 + u)).toNat : Nat) : Int)] = _
  rw [UInt8.toNat_ofNat']
  congr 1
  omega
theorem digs_big {u : Nat} (h : ¬ u < 10) : digs u = digs (u / 10) ++ [48 + ((u % 10 : Nat) : Int)] := by
  unfold digs
  rw [Lib.decDigits, dif_neg h, List.map_append]
  congr 1
  show [(((UInt8.ofNat (48 + u % 10)).toNat : Nat) : Int)] = _
  rw [UInt8.toNat_ofNat']
  congr 1
  omega
theorem digs_bytes (u : Nat) : (⟨(Lib.decDigits u).toArray⟩ : ByteArray) = strOfNums (digs u) := by
  have h : bytesOf (⟨(Lib.decDigits u).toArray⟩ : ByteArray) = digs u := rfl
  rw [← h, strOf_bytesOf]
theorem digs_len (u : Nat) : (digs u).length = Lib.nDigits u := by
  unfold digs
  rw [List.length_map, Lib.decDigits_length]
theorem digs_ind {P : Nat → Prop} (h1 : ∀ u, u < 10 → P u) (h2 : ∀ u, ¬ u < 10 → P (u / 10) → P u) : ∀ u, P u := by
  intro u
  induction u using Nat.strongRecOn with
  | _ u ih =>
    by_cases h : u < 10
    · exact h1 u h
    · exact h2 u h (ih (u / 10) (by omega))
theorem digs_D : ∀ u, (digs u).all isD = true := by
  refine digs_ind (fun u h => ?_) (fun u h ih => ?_)
  · rw [digs_small h, List.all_cons, Bool.and_eq_true, isD_iff]
    exact ⟨by omega, rfl⟩
  · rw [digs_big h, List.all_append, ih, Bool.true_and, List.all_cons, Bool.and_eq_true, isD_iff]
    exact ⟨by omega, rfl⟩
theorem digs_val : ∀ u, valL 0 (digs u) = (u : Int) := by
  refine digs_ind (fun u h => ?_) (fun u h ih => ?_)
  · rw [digs_small h]
    show 10 * 0 + (48 + (u : Int) - 48) = _
    omega
  · rw [digs_big h, valL_app, ih]
    show 10 * ((u / 10 : Nat) : Int) + (48 + ((u % 10 : Nat) : Int) - 48) = _
    omega
theorem digs_ne (u : Nat) : digs u ≠ [] := by
  intro h
  have := congrArg List.length h
  rw [digs_len] at this
  have := Lib.nDigits_pos u
  simp at *
  omega
theorem digs_head : ∀ u, 0 < u → ∃ c l, digs u = c :: l ∧ 49 ≤ c ∧ c ≤ 57 := by
  refine digs_ind (fun u h hu => ?_) (fun u h ih hu => ?_)
  · exact ⟨48 + (u : Int), [], digs_small h, by omega, by omega⟩
  · obtain ⟨c, l, e, h1, h2⟩ := ih (by omega)
    exact ⟨c, l ++ [48 + ((u % 10 : Nat) : Int)], by rw [digs_big h, e]; rfl, h1, h2⟩
theorem digs_zero : digs 0 = [48] := digs_small (by omega)
theorem digs_byte (u : Nat) : ∀ x ∈ digs u, 0 ≤ x ∧ x < 256 := by
  intro x hx
  have := List.all_eq_true.1 (digs_D u) x hx
  rw [isD_iff] at this
  omega
theorem digs_le20 (u : Nat) (h : u < 18446744073709551616) : (digs u).length ≤ 20 := by
  rw [digs_len]
  rcases Nat.eq_zero_or_pos u with rfl | h1
  · rw [Lib.nDigits_small (by omega)]; omega
  · have := Lib.numDigits_eq u h1 h
    split at this <;> omega
/-! ### a text as a number -/
def numV (l : List Int) (M : Int) : Int × Bool := if l ≠ [] ∧ l.all isD = true ∧ ¬ (l.head? = some 48 ∧ 1 < l.length) ∧ valL 0 l ≤ M then (valL 0 l, true) else (0, false)
theorem uw (x : Int) (h0 : 0 ≤ x) (h1 : x < 18446744073709551616) : IntKind.u64.wrap x = x := by rw [IntKind.wrap_u64]; omega
theorem td {x : Int} (h : 0 ≤ x) (m : Int) : Int.tdiv x m = x / m := Int.tdiv_eq_ediv_of_nonneg h
theorem num_run (b : List Int) (hb : b.length < 4611686018427387904) (hB : ∀ x ∈ b, 0 ≤ x ∧ x < 256) (M : Int) (M0 : 0 ≤ M) (M1 : M < 18446744073709551616) : ∀ (l : List Int) (n : Nat) (acc : Int), b.drop n = l → n ≤ b.length → 0 ≤ acc → (acc ≤ M ∨ acc ≤ 9) →
    Ev (fun k => date_Num.l0 k M acc b (b.length : Int) (n : Int)) (if l.all isD = true ∧ valL acc l ≤ M then (valL acc l, true) else (0, false)) := by
  intro l
  induction l with
  | nil =>
    intro n acc h hn h0 h1
    have := dn h hn
    refine Ev.step (f := fun _ => some _) (fun k => ?_) (Ev.now _)
    simp only [date_Num.l0]
    rw [if_neg (by omega)]
    by_cases hm : acc > M
    · rw [if_pos hm, if_neg (fun z => by have := z.2; unfold valL at this; omega)]
    · rw [if_neg hm, if_pos ⟨rfl, by unfold valL; omega⟩]
      rfl
  | cons c l ih =>
    intro n acc h hn h0 h1
    obtain ⟨g1, g2, g3, g4⟩ := dc h
    have hc : 0 ≤ c ∧ c < 256 := hB c (List.mem_of_mem_drop (i := n) (by rw [h]; exact List.mem_cons_self ..))
    have hbad : ¬ ((c :: l).all isD = true ∧ valL acc (c :: l) ≤ M) → ∀ k, date_Num.j2 (k + 1) M acc c b (b.length : Int) (n : Int) true = some (if (c :: l).all isD = true ∧ valL acc (c :: l) ≤ M then (valL acc (c :: l), true) else (0, false)) := by
      intro hx k
      simp only [date_Num.j2]
      rw [if_pos trivial, if_neg hx]
    by_cases c1 : c < 48
    · have hx : ¬ ((c :: l).all isD = true ∧ valL acc (c :: l) ≤ M) := by
        rintro ⟨h2, _⟩
        rw [List.all_cons, Bool.and_eq_true, isD_iff] at h2
        omega
      refine Ev.step (f := fun k => date_Num.j2 k M acc c b (b.length : Int) (n : Int) true) (fun k => ?_) (Ev.step (f := fun _ => some _) (fun k => hbad hx k) (Ev.now _))
      simp only [date_Num.l0]
      rw [if_pos (by omega), if_pos (by omega), if_pos (by omega), g2, if_pos c1]
    · by_cases c2 : c > 57
      · have hx : ¬ ((c :: l).all isD = true ∧ valL acc (c :: l) ≤ M) := by
          rintro ⟨h2, _⟩
          rw [List.all_cons, Bool.and_eq_true, isD_iff] at h2
          omega
        refine Ev.step (f := fun k => date_Num.j2 k M acc c b (b.length : Int) (n : Int) true) (fun k => ?_) (Ev.step (f := fun _ => some _) (fun k => hbad hx k) (Ev.now _))
        simp only [date_Num.l0]
        rw [if_pos (by omega), if_pos (by omega), if_pos (by omega), g2, if_neg c1, decide_eq_true c2]
      · have hd : (c - 48) % 256 = c - 48 := by omega
        have hD : isD c = true := (isD_iff c).2 ⟨by omega, by omega⟩
        have hmn : mn (c - 48) M = if M < c - 48 then M else c - 48 := rfl
        have hstep : Ev (fun k => date_Num.j2 k M acc c b (b.length : Int) (n : Int) false) (if (c :: l).all isD = true ∧ valL acc (c :: l) ≤ M then (valL acc (c :: l), true) else (0, false)) := by
          have hv : valL acc (c :: l) = valL (10 * acc + (c - 48)) l := rfl
          have hmn0 : 0 ≤ mn (c - 48) M ∧ mn (c - 48) M ≤ M := by rw [hmn]; split <;> omega
          by_cases hbig : acc > M / 10 ∨ 10 * acc > M - mn (c - 48) M
          · have hx : ¬ ((c :: l).all isD = true ∧ valL acc (c :: l) ≤ M) := by
              rintro ⟨h2, h3⟩
              rw [List.all_cons, Bool.and_eq_true] at h2
              have := valL_ge l (10 * acc + (c - 48)) h2.2 (by omega)
              rw [hv] at h3
              rw [hmn] at hbig
              rcases hbig with hbig | hbig
              · omega
              · split at hbig <;> omega
            refine Ev.step (f := fun _ => some (0, false)) (fun k => ?_) (by rw [if_neg hx]; exact Ev.now _)
            simp only [date_Num.j2]
            rw [if_neg (by simp), td M0, hd, uw (M / 10) (by omega) (by omega)]
            by_cases hb1 : acc > M / 10
            · rw [if_pos hb1]
            · rw [if_neg hb1, uw (10 * acc) (by omega) (by omega), uw (M - mn (c - 48) M) (by omega) (by omega), if_pos (by omega)]
          · have hn1 : acc ≤ M / 10 := by omega
            have hn2 : 10 * acc ≤ M - mn (c - 48) M := by omega
            have hle : 10 * acc + (c - 48) ≤ M ∨ 10 * acc + (c - 48) ≤ 9 := by
              rw [hmn] at hn2
              split at hn2 <;> omega
            have := ih (n + 1) (10 * acc + (c - 48)) g3 (by omega) (by omega) hle
            rw [List.all_cons, hD, Bool.true_and, hv]
            refine Ev.step (f := fun k => date_Num.l0 k M (10 * acc + (c - 48)) b (b.length : Int) ((n + 1 : Nat) : Int)) (fun k => ?_) this
            simp only [date_Num.j2]
            rw [if_neg (by simp), td M0, hd, uw (M / 10) (by omega) (by omega), if_neg (by omega), uw (10 * acc) (by omega) (by omega), uw (M - mn (c - 48) M) (by omega) (by omega), if_neg (by omega), uw (10 * acc + (c - 48)) (by omega) (by omega), wrap_nat (by omega)]
        refine Ev.step (f := fun k => date_Num.j2 k M acc c b (b.length : Int) (n : Int) false) (fun k => ?_) hstep
        simp only [date_Num.l0]
        rw [if_pos (by omega), if_pos (by omega), if_pos (by omega), g2, if_neg c1, decide_eq_false c2]
theorem num (s : ByteArray) (hs : s.size < 1048576) (M : Int) (M0 : 0 ≤ M) (M1 : M < 18446744073709551616) : Ev (fun k => date_Num.f k s M) (numV (bytesOf s) M) := by
  have hl := len_bytes s
  have hj : ∀ bad : Bool, (bad = true → numV (bytesOf s) M = (0, false)) → (bad = false → bytesOf s ≠ [] ∧ ¬ ((bytesOf s).head? = some 48 ∧ 1 < (bytesOf s).length)) → Ev (fun k => date_Num.j0 k s M bad) (numV (bytesOf s) M) := by
    intro bad h1 h2
    cases bad with
    | true =>
      rw [h1 rfl]
      refine Ev.step (f := fun _ => some _) (fun k => ?_) (Ev.now _)
      simp only [date_Num.j0]
      rw [if_pos trivial]
    | false =>
      have h3 := h2 rfl
      have := num_run (bytesOf s) (by omega) (bytesOf_byte s) M M0 M1 (bytesOf s) 0 0 rfl (Nat.zero_le _) (by omega) (by omega)
      refine Ev.step (f := fun k => date_Num.l0 k M 0 (bytesOf s) ((bytesOf s).length : Int) 0) (fun k => ?_) ?_
      · simp only [date_Num.j0]
        rw [if_neg (by simp), if_pos (by omega), Option.bind_some]
      · have e : numV (bytesOf s) M = if (bytesOf s).all isD = true ∧ valL 0 (bytesOf s) ≤ M then (valL 0 (bytesOf s), true) else (0, false) := by
          unfold numV
          by_cases hc : (bytesOf s).all isD = true ∧ valL 0 (bytesOf s) ≤ M
          · rw [if_pos hc, if_pos ⟨h3.1, hc.1, h3.2, hc.2⟩]
          · rw [if_neg hc, if_neg (fun z => hc ⟨z.2.1, z.2.2.2⟩)]
        rw [e]
        exact this
  have hnil : (s.toList = ([] : List UInt8)) ↔ bytesOf s = [] := by
    rw [Lib.toList_data]
    unfold bytesOf
    rw [List.map_eq_nil_iff]
  by_cases he : s.toList = ([] : List UInt8)
  · refine Ev.congr (f := fun k => date_Num.j0 k s M true) (fun k => ?_) (hj true (fun _ => ?_) (fun h => by cases h))
    · unfold date_Num.f
      rw [if_pos he]
    · unfold numV
      rw [if_neg (fun z => z.1 (hnil.1 he))]
  · have hne : bytesOf s ≠ [] := fun h => he (hnil.2 h)
    obtain ⟨c, l, hcl⟩ := List.exists_cons_of_ne_nil hne
    have hlen : (bytesOf s).length = l.length + 1 := by rw [hcl]; rfl
    have hb0 : bt s 0 = c := by
      have := bt_rd s 0
      rw [hcl] at this
      exact this
    have hhd : (bytesOf s).head? = some c := by rw [hcl]; rfl
    by_cases h48 : c = 48
    · refine Ev.congr (f := fun k => date_Num.j0 k s M (decide ((s.size : Int) > 1))) (fun k => ?_) (hj _ (fun h => ?_) (fun h => ?_))
      · unfold date_Num.f
        rw [if_neg he, if_pos (by omega), hb0, if_pos h48]
      · have := of_decide_eq_true h
        unfold numV
        rw [if_neg (fun z => z.2.2.1 ⟨by rw [hhd, h48], by omega⟩)]
      · have := of_decide_eq_false h
        exact ⟨hne, fun z => by omega⟩
    · refine Ev.congr (f := fun k => date_Num.j0 k s M false) (fun k => ?_) (hj _ (fun h => by cases h) (fun h => ?_))
      · unfold date_Num.f
        rw [if_neg he, if_pos (by omega), hb0, if_neg h48]
      · refine ⟨hne, fun z => h48 ?_⟩
        have := z.1
        rw [hhd] at this
        injection this
theorem text_f (u : Nat) (hu : u < 18446744073709551616) : date_Text.f (u : Int) = some (strOfNums (digs u)) := by
  unfold date_Text.f strconv_FormatUint_45.f
  have e : strconv_FormatUint_68.f (u : Int) 10 = some (strOfNums (digs u)) := by
    unfold strconv_FormatUint_68.f
    rw [if_pos rfl, if_pos (by omega), if_pos (by omega), Int.toNat_natCast, digs_bytes]
  rw [e]
  rfl
theorem numV_digs (u : Nat) (M : Int) : numV (digs u) M = if (u : Int) ≤ M then ((u : Int), true) else (0, false) := by
  have h1 := digs_ne u
  have h2 := digs_D u
  have h3 := digs_val u
  have h4 : ¬ ((digs u).head? = some 48 ∧ 1 < (digs u).length) := by
    rcases Nat.eq_zero_or_pos u with rfl | hp
    · rw [digs_zero]; simp
    · obtain ⟨c, l, e, g1, g2⟩ := digs_head u hp
      rintro ⟨z, _⟩
      rw [e] at z
      simp at z
      omega
  unfold numV
  by_cases hm : (u : Int) ≤ M
  · rw [if_pos ⟨h1, h2, h4, by omega⟩, if_pos hm, h3]
  · rw [if_neg (fun z => hm (by have := z.2.2.2; omega)), if_neg hm]
end Go.Proofs.YtcgchblljhbdaaaDoor.NumS
