/- Lines, and rows out of lines, in plain lists. -/
import Derived.Test.YtjieelpkdhfcgaaEx3
import Derived.Test.YtjieelpkdhfcgaaEx4
import Derived.Test.YtjieelpkdhfcgaaEx5
import Derived.Test.YtjieelpkdhfcgaaPL
import Derived.Lib.LazyBuf
namespace Go.Proofs.Ytjieelpkdhfcgaa.DnslS
open Go Go.RowKit Go.Proofs.YtjieelpkdhfcgaaW.PrintWords Go.Proofs.Ytjieelpkdhfcgaa.PL Go.Proofs.Ytjieelpkdhfcgaa.E
set_option linter.unusedSimpArgs false
set_option linter.unusedVariables false
theorem wrap_nn (a b : Nat) (h : a + b < 4611686018427387904) : wrap64 ((a : Int) + (b : Int)) = ((a + b : Nat) : Int) := by unfold wrap64; omega
theorem wrap_n1 (a : Nat) (h : a < 4611686018427387904) : wrap64 ((a : Int) + 1) = ((a + 1 : Nat) : Int) := by unfold wrap64; omega
theorem wrap_pred (a : Nat) (h0 : 0 < a) (h : a < 4611686018427387904) : wrap64 ((a : Int) - 1) = ((a - 1 : Nat) : Int) := by unfold wrap64; omega
theorem size_strOf (l : List Int) : (strOfNums l).size = l.length := by simp [strOfNums, ByteArray.size]
theorem rd_mem (b : List Int) (n : Nat) (h : n < b.length) : rd b n ∈ b := by
  simp [rd, List.getD_eq_getElem?_getD, List.getElem?_eq_getElem h]
theorem u8_ten (c : Int) (h0 : 0 ≤ c) (h1 : c < 256) : (UInt8.ofNat c.toNat == (10 : UInt8)) = decide (c = 10) := by
  have h := byteB (p := fun c => (UInt8.ofNat c.toNat == (10 : UInt8)) == decide (c = 10)) (by kernel_rfl) c h0 h1
  exact eq_of_beq h
theorem take_succ_rd (b : List Int) (n : Nat) (h : n < b.length) : b.take (n + 1) = b.take n ++ [rd b n] := by
  rw [List.take_succ_eq_append_getElem h]
  simp [rd, List.getD_eq_getElem?_getD, List.getElem?_eq_getElem h]
/-! ### lines -/
def isNl (c : Int) : Bool := c == 10
def notNl (c : Int) : Bool := !(c == 10)
def trim (l : List Int) : List Int := if l ≠ [] ∧ rd l (l.length - 1) = 13 then l.take (l.length - 1) else l
def linesS (at_ : Nat) (cur : List Int) : List Int → List S36
  | [] => if cur = [] then [] else [⟨1, strOfNums cur, (at_ : Int)⟩]
  | c :: l => if c = 10 then ⟨1, strOfNums (trim cur), (at_ : Int)⟩ :: linesS (at_ + cur.length + 1) [] l else linesS at_ (cur ++ [c]) l
theorem linesS_cons (at_ : Nat) (cur : List Int) (c : Int) (l : List Int) : linesS at_ cur (c :: l) = if c = 10 then ⟨1, strOfNums (trim cur), (at_ : Int)⟩ :: linesS (at_ + cur.length + 1) [] l else linesS at_ (cur ++ [c]) l := rfl
theorem lines_tw : ∀ (l cur : List Int) (at_ : Nat), linesS at_ cur l = (match l.dropWhile notNl with
    | [] => if cur ++ l = [] then [] else [⟨1, strOfNums (cur ++ l), (at_ : Int)⟩]
    | _ :: l' => ⟨1, strOfNums (trim (cur ++ l.takeWhile notNl)), (at_ : Int)⟩ :: linesS (at_ + (cur ++ l.takeWhile notNl).length + 1) [] l') := by
  intro l
  induction l with
  | nil => intro cur at_; simp [linesS]
  | cons c l ih =>
    intro cur at_
    by_cases hc : c = 10
    · subst hc
      simp [linesS, notNl, List.dropWhile_cons, List.takeWhile_cons]
    · have hn : notNl c = true := by simp [notNl, hc]
      rw [linesS_cons, if_neg hc, ih, List.dropWhile_cons, if_pos hn, List.takeWhile_cons, if_pos hn]
      simp only [List.append_assoc, List.singleton_append]
theorem lines_len : ∀ (l cur : List Int) (at_ : Nat), (linesS at_ cur l).length ≤ l.length + 1 := by
  intro l
  induction l with
  | nil => intro cur at_; unfold linesS; split <;> simp
  | cons c l ih =>
    intro cur at_
    rw [linesS_cons]
    split
    · have := ih [] (at_ + cur.length + 1)
      simp; omega
    · have := ih (cur ++ [c]) at_
      simp; omega
/-- Where the first line feed stands. -/
theorem index_nl (l : List Int) (hB : ∀ x ∈ l, 0 ≤ x ∧ x < 256) : bytes_IndexByte.f l 10 = some (if l.dropWhile notNl = [] then -1 else ((l.takeWhile notNl).length : Int)) := by
  unfold bytes_IndexByte.f
  have e : (10 : Int).toNat.toUInt8 = 10 := rfl
  rw [e]
  congr 1
  induction l with
  | nil => rfl
  | cons c l ih =>
    have hb := hB c (List.mem_cons_self ..)
    have ih := ih (fun x hx => hB x (List.mem_cons_of_mem _ hx))
    have hu := u8_ten c hb.1 hb.2
    unfold Lib.bytesOf at *
    rw [List.map_cons]
    unfold Lib.indexByte
    rw [hu]
    by_cases hc : c = 10
    · simp [hc, notNl, List.dropWhile_cons, List.takeWhile_cons]
    · have hn : notNl c = true := by simp [notNl, hc]
      rw [List.dropWhile_cons, if_pos hn, List.takeWhile_cons, if_pos hn, ih]
      simp only [hc, decide_false, Bool.false_eq_true, if_false]
      by_cases hd : l.dropWhile notNl = []
      · simp [hd]
      · rw [if_neg hd, if_neg hd, if_neg (by simp), List.length_cons]
        omega
theorem eq13 (c : Int) (h0 : 0 ≤ c) (h1 : c < 256) : ((strOfNums [c]).toList == (strOfNums [13]).toList) = decide (c = 13) := by
  have h := byteB (p := fun c => ((strOfNums [c]).toList == (strOfNums [13]).toList) == decide (c = 13)) (by kernel_rfl) c h0 h1
  exact eq_of_beq h
theorem Trim_run (l : List Int) (hl : l.length < 1000000) (hB : ∀ x ∈ l, 0 ≤ x ∧ x < 256) : bytes_TrimSuffix.f l [13] = some (trim l) := by
  unfold bytes_TrimSuffix.f bytes_HasSuffix.f trim
  have h1 : ([13] : List Int).length = 1 := rfl
  rw [h1]
  by_cases hn : l = []
  · subst hn
    rfl
  · have hp : 0 < l.length := List.length_pos_iff.mpr hn
    have hw : wrap64 ((l.length : Int) - ((1 : Nat) : Int)) = ((l.length - 1 : Nat) : Int) := by unfold wrap64; omega
    rw [hw, if_pos (by omega), if_pos (by omega), if_pos (by omega), Int.toNat_natCast]
    have hm := rd_mem l (l.length - 1) (by omega)
    have hb := hB _ hm
    have hd : l.drop (l.length - 1) = [rd l ((l.length - 1 : Nat) : Int)] := by
      rw [List.drop_eq_getElem_cons (by omega), List.drop_eq_nil_of_le (by omega)]
      simp [rd, List.getD_eq_getElem?_getD, List.getElem?_eq_getElem (show l.length - 1 < l.length by omega)]
    unfold bytes_Equal.f
    have hc : ((l.length - 1 : Nat) : Int) = (l.length : Int) - 1 := by omega
    rw [hd, eq13 _ hb.1 hb.2, hc]
    by_cases h13 : rd l ((l.length : Int) - 1) = 13
    · simp only [h13, decide_true, Option.bind_some, if_true, ne_eq, hn, not_false_eq_true, and_self]
      rw [if_pos (by omega), if_pos (by omega)]
    · simp [h13]
theorem drop_take_drop (b : List Int) (n m : Nat) : (b.take (n + m)).drop n = (b.drop n).take m := by
  rw [List.drop_take]
  congr 1
  omega
theorem Lines_run (b : List Int) (hb : b.length < 1000000) (hB : ∀ x ∈ b, 0 ≤ x ∧ x < 256) : Ev (fun k => scan_Lines.f k b) (linesS 0 [] b) := by
  have hl : ∀ (d n : Nat) (l : List Int) (out : List S36), b.drop n = l → l.length ≤ d → n ≤ b.length → out.length ≤ n →
      Ev (fun k => scan_Lines.l0 k b out (n : Int)) (out ++ linesS n [] l) := by
    intro d
    induction d with
    | zero =>
      intro n l out h hd hn ho
      obtain rfl : l = [] := List.length_eq_zero_iff.mp (by omega)
      have := dn h hn
      refine Ev.step (f := fun _ => some out) (fun k => ?_) (by simpa [linesS] using Ev.now out)
      simp only [scan_Lines.l0]
      rw [if_neg (by omega)]
    | succ d ih =>
      intro n l out h hd hn ho
      by_cases hl0 : l = []
      · exact ih n l out h (by simp [hl0]) hn ho
      have hlen : l.length = b.length - n := by rw [← h]; simp
      have hpos : 0 < l.length := List.length_pos_iff.mpr hl0
      have hBl : ∀ x ∈ l, 0 ≤ x ∧ x < 256 := fun x hx => hB x (by rw [← h] at hx; exact List.mem_of_mem_drop hx)
      have hi := index_nl l hBl
      have htw := tw_len (p := notNl) l
      have hdt := drop_tw (p := notNl) l
      have htt := take_tw (p := notNl) l
      rw [lines_tw]
      cases hdw : l.dropWhile notNl with
      | nil =>
        rw [if_pos hdw] at hi
        simp only [List.nil_append, if_neg hl0]
        refine Ev.step (f := fun _ => some (out ++ [(⟨1, strOfNums l, (n : Int)⟩ : S36)])) (fun k => ?_) (Ev.now _)
        simp only [scan_Lines.l0]
        rw [if_pos (by omega), if_pos (by omega), if_pos (by omega), Int.toNat_natCast, h, hi, Option.bind_some, if_pos (by omega), if_pos (by omega)]
      | cons c l' =>
        have hne : l.dropWhile notNl ≠ [] := by rw [hdw]; simp
        rw [if_neg hne] at hi
        rw [hdw] at htw hdt
        simp only [List.length_cons] at htw
        simp only [List.nil_append]
        generalize htl : l.takeWhile notNl = t at *
        have hlt : t.length < 1000000 := by omega
        have hBt : ∀ x ∈ t, 0 ≤ x ∧ x < 256 := fun x hx => hBl x (by rw [← htl] at hx; exact (List.takeWhile_prefix notNl).mem hx)
        have hnext : b.drop (n + t.length + 1) = l' := by
          have : b.drop (n + t.length) = c :: l' := by rw [← hdt, ← h, List.drop_drop]
          rw [← List.drop_drop, this]
          rfl
        have hcut : (b.take (n + t.length)).drop n = t := by rw [drop_take_drop, h, htt]
        have ih' := ih (n + t.length + 1) l' (out ++ [(⟨1, strOfNums (trim t), (n : Int)⟩ : S36)]) hnext (by omega) (by omega) (by rw [List.length_append, List.length_singleton]; omega)
        rw [List.append_assoc] at ih'
        refine Ev.step (f := fun k => scan_Lines.l0 k b (out ++ [(⟨1, strOfNums (trim t), (n : Int)⟩ : S36)]) ((n + t.length + 1 : Nat) : Int)) (fun k => ?_) ih'
        simp only [scan_Lines.l0]
        rw [if_pos (by omega), if_pos (by omega), if_pos (by omega), Int.toNat_natCast, h, hi, Option.bind_some, if_neg (by omega), wrap_nn n t.length (by omega), if_pos (by omega), if_pos (by omega), Int.toNat_natCast, hcut, Trim_run t hlt hBt, Option.bind_some, if_pos (by omega), wrap_n1 t.length (by omega), wrap_nn n (t.length + 1) (by omega), ← Nat.add_assoc]
  refine Ev.congr (fun k => ?_) (hl b.length 0 b [] rfl (Nat.le_refl _) (Nat.zero_le _) (Nat.le_refl _))
  rfl

/-! ### keys and parts -/
theorem bt_rd (s : ByteArray) (n : Nat) : bt s (n : Int) = rd (bytesOf s) (n : Int) := (rd_bytesOf s _).symm
theorem len_bytes (s : ByteArray) : (bytesOf s).length = s.size := by simp [bytesOf]
theorem bytesOf_strOf (l : List Int) (h : ∀ x ∈ l, 0 ≤ x ∧ x < 256) : bytesOf (strOfNums l) = l := by
  have h1 : ∀ x ∈ l, ((x.toNat.toUInt8).toNat : Int) = x := by
    intro x hx
    have := h x hx
    rw [Nat.toUInt8, UInt8.toNat_ofNat']
    omega
  unfold bytesOf strOfNums
  simp only [List.map_map]
  conv => rhs; rw [← List.map_id l]
  apply List.map_congr_left
  intro x hx
  exact h1 x hx
theorem strOf_bytesOf (s : ByteArray) : strOfNums (bytesOf s) = s := by
  unfold bytesOf
  rw [Go.Lib.Lz.strOfNums_map]
theorem bytesOf_app (a b : ByteArray) : bytesOf (a ++ b) = bytesOf a ++ bytesOf b := by
  simp [bytesOf]
theorem bytesOf_extract (s : ByteArray) (a b : Nat) : bytesOf (s.extract a b) = ((bytesOf s).take b).drop a := by
  simp [bytesOf, ByteArray.data_extract, Array.toList_extract, List.extract_eq_take_drop, List.drop_take, List.map_take, List.map_drop]
theorem extract_strOf (s : ByteArray) (a b : Nat) : s.extract a b = strOfNums (((bytesOf s).take b).drop a) := by
  rw [← bytesOf_extract, strOf_bytesOf]
def isK (c : Int) : Bool := (decide (97 ≤ c) && decide (c ≤ 122)) || c == 45
def isP (c : Int) : Bool := !(c == 44) && decide (32 ≤ c) && decide (c ≤ 126)
theorem key_run (s : ByteArray) (hs : s.size < 2000000) : ∀ (l : List Int) (n : Nat), (bytesOf s).drop n = l → n ≤ s.size →
    Ev (fun k => dnsl_key.l0 k s (n : Int)) ((n + (l.takeWhile isK).length : Nat) : Int) := by
  have hl := len_bytes s
  intro l
  induction l with
  | nil =>
    intro n h hn
    have := dn h (by omega)
    refine Ev.step (f := fun _ => some ((n + ([].takeWhile isK).length : Nat) : Int)) (fun k => ?_) (Ev.now _)
    simp only [dnsl_key.l0]
    rw [if_neg (by omega)]
    simp
  | cons c l ih =>
    intro n h hn
    obtain ⟨h1, h2, h3, h4⟩ := dc h
    have ih' := ih (n + 1) h3 (by omega)
    by_cases hc : isK c = true
    · have e : n + ((c :: l).takeWhile isK).length = n + 1 + (l.takeWhile isK).length := by
        rw [List.takeWhile_cons, if_pos hc, List.length_cons]
        omega
      rw [e]
      refine Ev.step (f := fun k => dnsl_key.l0 k s ((n + 1 : Nat) : Int)) (fun k => ?_) ih'
      simp only [dnsl_key.l0]
      rw [if_pos (by omega), if_pos (by omega), bt_rd, h2, wrap_n1 n (by omega)]
      simp only [isK, Bool.or_eq_true, Bool.and_eq_true, decide_eq_true_eq, beq_iff_eq] at hc
      by_cases c1 : c ≥ 97
      · rw [if_pos c1]
        by_cases c2 : c ≤ 122
        · rw [if_pos c2]
        · rw [if_neg c2, if_pos (by omega)]
      · rw [if_neg c1, if_pos (by omega)]
    · have e : n + ((c :: l).takeWhile isK).length = n := by
        rw [List.takeWhile_cons, if_neg hc]
        rfl
      rw [e]
      refine Ev.step (f := fun _ => some (n : Int)) (fun k => ?_) (Ev.now _)
      simp only [dnsl_key.l0]
      rw [if_pos (by omega), if_pos (by omega), bt_rd, h2]
      simp only [isK, Bool.or_eq_true, Bool.and_eq_true, decide_eq_true_eq, beq_iff_eq] at hc
      by_cases c1 : c ≥ 97
      · rw [if_pos c1, if_neg (by omega), if_neg (by omega)]
      · rw [if_neg c1, if_neg (by omega)]
def partS : List Int → Nat → Int × Bool
  | [], n => ((n : Int), true)
  | c :: l, n => if c = 44 then ((n : Int), true) else if c < 32 ∨ c > 126 then ((n : Int), false) else partS l (n + 1)
theorem partS_ok : ∀ (p r : List Int) (n : Nat), (∀ x ∈ p, isP x = true) → partS (p ++ r) n = partS r (n + p.length)
  | [], r, n, _ => rfl
  | c :: p, r, n, h => by
    have hc := h c List.mem_cons_self
    simp only [isP, Bool.and_eq_true, Bool.not_eq_true', beq_eq_false_iff_ne, decide_eq_true_eq] at hc
    have ih := partS_ok p r (n + 1) (fun x hx => h x (List.mem_cons_of_mem _ hx))
    show (if c = 44 then _ else if c < 32 ∨ c > 126 then _ else partS (p ++ r) (n + 1)) = _
    rw [if_neg hc.1.1, if_neg (by omega), ih, List.length_cons]
    congr 1
    omega
theorem part_run (s : ByteArray) (hs : s.size < 2000000) : Ev (fun k => dnsl_part.f k s) (partS (bytesOf s) 0) := by
  have hlb := len_bytes s
  have hl : ∀ (l : List Int) (n : Nat), (bytesOf s).drop n = l → n ≤ s.size → Ev (fun k => dnsl_part.l0 k s (bytesOf s) ((bytesOf s).length : Int) (n : Int)) (partS l n) := by
    intro l
    induction l with
    | nil =>
      intro n h hn
      have := dn h (by omega)
      refine Ev.step (f := fun _ => some (partS [] n)) (fun k => ?_) (Ev.now _)
      simp only [dnsl_part.l0, partS]
      rw [if_neg (by omega)]
      congr 2
      omega
    | cons c l ih =>
      intro n h hn
      obtain ⟨h1, h2, h3, h4⟩ := dc h
      have ih' := ih (n + 1) h3 (by omega)
      by_cases c1 : c = 44
      · refine Ev.step (f := fun _ => some (partS (c :: l) n)) (fun k => ?_) (Ev.now _)
        simp only [dnsl_part.l0, partS]
        rw [if_pos (by omega), if_pos (by omega), if_pos (by omega), h2, if_pos c1, if_pos c1]
      · by_cases c2 : c < 32
        · refine Ev.step (f := fun _ => some (partS (c :: l) n)) (fun k => ?_) (Ev.now _)
          simp only [dnsl_part.l0, partS]
          rw [if_pos (by omega), if_pos (by omega), if_pos (by omega), h2, if_neg c1, if_pos c2, if_neg c1, if_pos (.inl c2)]
        · by_cases c3 : c > 126
          · refine Ev.step (f := fun _ => some (partS (c :: l) n)) (fun k => ?_) (Ev.now _)
            simp only [dnsl_part.l0, partS]
            rw [if_pos (by omega), if_pos (by omega), if_pos (by omega), h2, if_neg c1, if_neg c2, if_pos c3, if_neg c1, if_pos (.inr c3)]
          · have e : partS (c :: l) n = partS l (n + 1) := by
              simp only [partS]
              rw [if_neg c1, if_neg (by omega)]
            rw [e]
            refine Ev.step (f := fun k => dnsl_part.l0 k s (bytesOf s) ((bytesOf s).length : Int) ((n + 1 : Nat) : Int)) (fun k => ?_) ih'
            simp only [dnsl_part.l0]
            rw [if_pos (by omega), if_pos (by omega), if_pos (by omega), h2, if_neg c1, if_neg c2, if_neg c3, wrap_n1 n (by omega)]
  refine Ev.congr (fun k => ?_) (hl (bytesOf s) 0 rfl (Nat.zero_le _))
  unfold dnsl_part.f
  rw [if_pos (by omega), Option.bind_some]
  rfl
end Go.Proofs.Ytjieelpkdhfcgaa.DnslS
