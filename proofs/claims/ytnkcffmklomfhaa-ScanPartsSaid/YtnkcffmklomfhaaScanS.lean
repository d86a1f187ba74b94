/- Where one is and the lines of bytes, in plain lists: what the program and the document both come to. -/
import Derived.Test.YtnkcffmklomfhaaYx3
import Derived.Test.YtnkcffmklomfhaaYx6
import Derived.Test.YtnkcffmklomfhaaPL
namespace Go.Proofs.Ytnkcffmklomfhaa.ScanS
open Go Go.RowKit Go.Proofs.YtnkcffmklomfhaaW.PrintWords Go.Proofs.Ytnkcffmklomfhaa.PL Go.Proofs.Ytnkcffmklomfhaa.Y
set_option linter.unusedSimpArgs false
set_option linter.unusedVariables false
theorem wrap_nn (a b : Nat) (h : a + b < 4611686018427387904) : wrap64 ((a : Int) + (b : Int)) = ((a + b : Nat) : Int) := by unfold wrap64; omega
theorem wrap_n1 (a : Nat) (h : a < 4611686018427387904) : wrap64 ((a : Int) + 1) = ((a + 1 : Nat) : Int) := by unfold wrap64; omega
theorem wrap_pred (a : Nat) (h0 : 0 < a) (h : a < 4611686018427387904) : wrap64 ((a : Int) - 1) = ((a - 1 : Nat) : Int) := by unfold wrap64; omega
theorem size_strOf (l : List Int) : (strOfNums l).size = l.length := by simp [strOfNums, ByteArray.size]
/-! ### places -/
def cnt (b : List Int) : Nat → Nat
  | 0 => 0
  | n + 1 => if rd b n = 10 then cnt b n + 1 else cnt b n
def lastBelow (b : List Int) : Nat → Int
  | 0 => -1
  | n + 1 => if rd b n = 10 then (n : Int) else lastBelow b n
def whr (b : List Int) (n : Nat) : Int × Int := (1 + (cnt b n : Int), (n : Int) - lastBelow b n)
theorem cnt_s (b : List Int) (n : Nat) : cnt b (n + 1) = if rd b n = 10 then cnt b n + 1 else cnt b n := rfl
theorem lb_s (b : List Int) (n : Nat) : lastBelow b (n + 1) = if rd b n = 10 then (n : Int) else lastBelow b n := rfl
theorem cnt_le (b : List Int) (n : Nat) : cnt b n ≤ n := by
  induction n with
  | zero => exact Nat.le_refl _
  | succ n ih => rw [cnt_s]; split <;> omega
theorem lb_range (b : List Int) (n : Nat) : -1 ≤ lastBelow b n ∧ lastBelow b n < n := by
  induction n with
  | zero => exact ⟨Int.le_refl _, by simp [lastBelow]⟩
  | succ n ih => rw [lb_s]; split <;> omega
theorem whr_zero (b : List Int) : whr b 0 = (1, 1) := rfl
theorem whr_nl (b : List Int) (n : Nat) (h : rd b n = 10) : whr b (n + 1) = ((whr b n).1 + 1, 1) := by
  unfold whr
  rw [cnt_s, lb_s, if_pos h, if_pos h]
  simp only [Prod.mk.injEq]
  constructor <;> omega
theorem whr_other (b : List Int) (n : Nat) (h : rd b n ≠ 10) : whr b (n + 1) = ((whr b n).1, (whr b n).2 + 1) := by
  unfold whr
  rw [cnt_s, lb_s, if_neg h, if_neg h]
  simp only [Prod.mk.injEq]
  constructor
  · trivial
  · omega
theorem take_rd (b : List Int) (m n : Nat) (h : n < m) : rd (b.take m) n = rd b n := by
  simp [rd, List.getD_eq_getElem?_getD, List.getElem?_take, h]
theorem lb_take (b : List Int) (m n : Nat) (h : n ≤ m) : lastBelow (b.take m) n = lastBelow b n := by
  induction n with
  | zero => rfl
  | succ n ih => rw [lb_s, lb_s, take_rd b m n (by omega), ih (by omega)]
theorem rd_mem (b : List Int) (n : Nat) (h : n < b.length) : rd b n ∈ b := by
  simp [rd, List.getD_eq_getElem?_getD, List.getElem?_eq_getElem h]
theorem u8_ten (c : Int) (h0 : 0 ≤ c) (h1 : c < 256) : (UInt8.ofNat c.toNat == (10 : UInt8)) = decide (c = 10) := by
  have h := byteB (p := fun c => (UInt8.ofNat c.toNat == (10 : UInt8)) == decide (c = 10)) (by kernel_rfl) c h0 h1
  exact eq_of_beq h
theorem take_succ_rd (b : List Int) (n : Nat) (h : n < b.length) : b.take (n + 1) = b.take n ++ [rd b n] := by
  rw [List.take_succ_eq_append_getElem h]
  simp [rd, List.getD_eq_getElem?_getD, List.getElem?_eq_getElem h]
theorem count_run (b : List Int) (hB : ∀ x ∈ b, 0 ≤ x ∧ x < 256) (n : Nat) (h : n ≤ b.length) : Lib.countByte (Lib.bytesOf (b.take n)) 10 = cnt b n := by
  induction n with
  | zero => rfl
  | succ n ih =>
    have hb := hB _ (rd_mem b n (by omega))
    have hu := u8_ten _ hb.1 hb.2
    rw [take_succ_rd b n (by omega)]
    have ih := ih (by omega)
    rw [cnt_s]
    unfold Lib.countByte Lib.bytesOf at *
    rw [List.map_append, List.count_append, ih]
    simp only [List.map_cons, List.map_nil, List.count_cons, List.count_nil, hu]
    by_cases h10 : rd b n = 10 <;> simp [h10]
theorem last_run (p : List Int) (hp : p.length < 4611686018427387904) : ∀ (n : Nat), n ≤ p.length →
    Ev (fun k => bytealg_LastIndexByte.l0 k p 10 ((n : Int) - 1)) (lastBelow p n) := by
  intro n
  induction n with
  | zero =>
    intro _
    refine Ev.step (f := fun _ => some (-1)) (fun k => ?_) (Ev.now _)
    simp only [bytealg_LastIndexByte.l0]
    rw [if_neg (by omega)]
  | succ n ih =>
    intro h
    have e1 : ((n + 1 : Nat) : Int) - 1 = (n : Int) := by omega
    rw [e1]
    by_cases h10 : rd p n = 10
    · refine Ev.step (f := fun _ => some (n : Int)) (fun k => ?_) ?_
      · simp only [bytealg_LastIndexByte.l0]
        rw [if_pos (by omega), if_pos (by omega), if_pos (by omega), if_pos h10]
      · rw [lb_s, if_pos h10]
        exact Ev.now _
    · refine Ev.step (f := fun k => bytealg_LastIndexByte.l0 k p 10 ((n : Int) - 1)) (fun k => ?_) ?_
      · simp only [bytealg_LastIndexByte.l0]
        rw [if_pos (by omega), if_pos (by omega), if_pos (by omega), if_neg h10, wrap_in (by omega) (by omega)]
      · rw [lb_s, if_neg h10]
        exact ih (by omega)
def clamp (b : List Int) (a : Int) : Nat := (mn (mx a 0) (b.length : Int)).toNat
theorem clamp_eq (b : List Int) (a : Int) : mn (mx a 0) (b.length : Int) = (clamp b a : Int) ∧ clamp b a ≤ b.length := by
  unfold clamp mn mx
  constructor <;> (repeat' split) <;> omega
theorem clamp_nat (b : List Int) (n : Nat) (h : n ≤ b.length) : clamp b (n : Int) = n := by
  unfold clamp mn mx
  (repeat' split) <;> omega
theorem Where_run (b : List Int) (hb : b.length < 1000000) (hB : ∀ x ∈ b, 0 ≤ x ∧ x < 256) (a : Int) : Ev (fun k => scan_Where.f k b a) (whr b (clamp b a)) := by
  obtain ⟨he, hle⟩ := clamp_eq b a
  generalize hm : clamp b a = m at he hle
  have hlen : (b.take m).length = m := by simp; omega
  refine Ev.congr (f := fun k => (bytes_LastIndexByte.f k (b.take m) 10).bind fun t => some (wrap64 (1 + (cnt b m : Int)), wrap64 ((m : Int) - t))) (fun k => ?_) ?_
  · unfold scan_Where.f
    rw [he, if_pos (by omega), if_pos (by omega), Int.toNat_natCast, hlen]
    have hcf : bytes_Count.f (b.take m) [10] = some (cnt b m : Int) := by
      unfold bytes_Count.f
      have e : (rd [10] 0).toNat.toUInt8 = 10 := rfl
      rw [if_pos (by rfl : ([10] : List Int).length = 1), e, count_run b hB m hle]
    rw [hcf, Option.bind_some]
  · have hl := lb_range b m
    have hc := cnt_le b m
    have hr : Ev (fun k => bytes_LastIndexByte.f k (b.take m) 10) (lastBelow b m) := by
      refine Ev.congr (f := fun k => (bytealg_LastIndexByte.l0 k (b.take m) 10 ((m : Int) - 1)).bind fun t => some t) (fun k => ?_) (Ev.bind (g := fun k => bytealg_LastIndexByte.l0 k (b.take m) 10 ((m : Int) - 1)) ?_ (Ev.now _))
      · unfold bytes_LastIndexByte.f bytealg_LastIndexByte.f
        rw [hlen, wrap_in (by omega) (by omega)]
      · have := last_run (b.take m) (by omega) m (by omega)
        rw [lb_take b m m (Nat.le_refl _)] at this
        exact this
    refine Ev.bind (g := fun k => bytes_LastIndexByte.f k (b.take m) 10) hr ?_
    rw [wrap_in (by omega) (by omega), wrap_in (by omega) (by omega)]
    exact Ev.now _
theorem rWhere_run (b : List Int) (hb : b.length < 1000000) (a : Int) : Ev (fun k => gleberef7_Where.f k b a) (whr b (clamp b a)) := by
  obtain ⟨he, hle⟩ := clamp_eq b a
  generalize clamp b a = m at he hle
  have hl : ∀ (d n : Nat), n + d = m → Ev (fun k => gleberef7_Where.l0 k b (m : Int) (whr b n).1 (whr b n).2 (n : Int)) (whr b m) := by
    intro d
    induction d with
    | zero =>
      intro n hn
      obtain rfl : n = m := by omega
      refine Ev.step (f := fun _ => some (whr b n)) (fun k => ?_) (Ev.now _)
      simp only [gleberef7_Where.l0]
      rw [if_neg (by omega)]
    | succ d ih =>
      intro n hn
      have h1 := cnt_le b n
      have h2 := lb_range b n
      have ih' := ih (n + 1) (by omega)
      by_cases h10 : rd b n = 10
      · rw [whr_nl b n h10] at ih'
        refine Ev.step (f := fun k => gleberef7_Where.l0 k b (m : Int) ((whr b n).1 + 1) 1 ((n + 1 : Nat) : Int)) (fun k => ?_) ih'
        simp only [gleberef7_Where.l0]
        rw [if_pos (by omega), if_pos (by omega), if_pos (by omega), if_pos h10, wrap_nat (by omega), wrap_in (by unfold whr; simp only; omega) (by unfold whr; simp only; omega)]
      · rw [whr_other b n h10] at ih'
        refine Ev.step (f := fun k => gleberef7_Where.l0 k b (m : Int) (whr b n).1 ((whr b n).2 + 1) ((n + 1 : Nat) : Int)) (fun k => ?_) ih'
        simp only [gleberef7_Where.l0]
        rw [if_pos (by omega), if_pos (by omega), if_pos (by omega), if_neg h10, wrap_nat (by omega), wrap_in (by unfold whr; simp only; omega) (by unfold whr; simp only; omega)]
  refine Ev.congr (fun k => ?_) (hl m 0 (by omega))
  unfold gleberef7_Where.f
  rw [he]
  rfl
/-! ### lines -/
def isNl (c : Int) : Bool := c == 10
def notNl (c : Int) : Bool := !(c == 10)
def trim (l : List Int) : List Int := if l ≠ [] ∧ rd l (l.length - 1) = 13 then l.take (l.length - 1) else l
def linesS (at_ : Nat) (cur : List Int) : List Int → List S33
  | [] => if cur = [] then [] else [⟨1, strOfNums cur, (at_ : Int)⟩]
  | c :: l => if c = 10 then ⟨1, strOfNums (trim cur), (at_ : Int)⟩ :: linesS (at_ + cur.length + 1) [] l else linesS at_ (cur ++ [c]) l
theorem linesS_cons (at_ : Nat) (cur : List Int) (c : Int) (l : List Int) : linesS at_ cur (c :: l) = if c = 10 then ⟨1, strOfNums (trim cur), (at_ : Int)⟩ :: linesS (at_ + cur.length + 1) [] l else linesS at_ (cur ++ [c]) l := rfl
theorem lines_tw : ∀ (l cur : List Int) (at_ : Nat), linesS at_ cur l = (match l.dropWhile notNl with
    | [] => if cur ++ l = [] then [] else [⟨1, strOfNums (cur ++ l), (at_ : Int)⟩]
    | _ :: l' => ⟨1, strOfNums (trim (cur ++ l.takeWhile notNl)), (at_ : Int)⟩ :: linesS (at_ + (cur ++ l.takeWhile notNl).length + 1) [] l') := by
  intro l
  induction l with
  | nil => intro cur at_; simp [linesS]
  | cons c l ih =>
    intro cur at_
    by_cases hc : c = 10
    · subst hc
      simp [linesS, notNl, List.dropWhile_cons, List.takeWhile_cons]
    · have hn : notNl c = true := by simp [notNl, hc]
      rw [linesS_cons, if_neg hc, ih, List.dropWhile_cons, if_pos hn, List.takeWhile_cons, if_pos hn]
      simp only [List.append_assoc, List.singleton_append]
theorem lines_len : ∀ (l cur : List Int) (at_ : Nat), (linesS at_ cur l).length ≤ l.length + 1 := by
  intro l
  induction l with
  | nil => intro cur at_; unfold linesS; split <;> simp
  | cons c l ih =>
    intro cur at_
    rw [linesS_cons]
    split
    · have := ih [] (at_ + cur.length + 1)
      simp; omega
    · have := ih (cur ++ [c]) at_
      simp; omega
/-- Where the first line feed stands. -/
theorem index_nl (l : List Int) (hB : ∀ x ∈ l, 0 ≤ x ∧ x < 256) : bytes_IndexByte.f l 10 = some (if l.dropWhile notNl = [] then -1 else ((l.takeWhile notNl).length : Int)) := by
  unfold bytes_IndexByte.f
  have e : (10 : Int).toNat.toUInt8 = 10 := rfl
  rw [e]
  congr 1
  induction l with
  | nil => rfl
  | cons c l ih =>
    have hb := hB c (List.mem_cons_self ..)
    have ih := ih (fun x hx => hB x (List.mem_cons_of_mem _ hx))
    have hu := u8_ten c hb.1 hb.2
    unfold Lib.bytesOf at *
    rw [List.map_cons]
    unfold Lib.indexByte
    rw [hu]
    by_cases hc : c = 10
    · simp [hc, notNl, List.dropWhile_cons, List.takeWhile_cons]
    · have hn : notNl c = true := by simp [notNl, hc]
      rw [List.dropWhile_cons, if_pos hn, List.takeWhile_cons, if_pos hn, ih]
      simp only [hc, decide_false, Bool.false_eq_true, if_false]
      by_cases hd : l.dropWhile notNl = []
      · simp [hd]
      · rw [if_neg hd, if_neg hd, if_neg (by simp), List.length_cons]
        omega
theorem eq13 (c : Int) (h0 : 0 ≤ c) (h1 : c < 256) : ((strOfNums [c]).toList == (strOfNums [13]).toList) = decide (c = 13) := by
  have h := byteB (p := fun c => ((strOfNums [c]).toList == (strOfNums [13]).toList) == decide (c = 13)) (by kernel_rfl) c h0 h1
  exact eq_of_beq h
theorem Trim_run (l : List Int) (hl : l.length < 1000000) (hB : ∀ x ∈ l, 0 ≤ x ∧ x < 256) : bytes_TrimSuffix.f l [13] = some (trim l) := by
  unfold bytes_TrimSuffix.f bytes_HasSuffix.f trim
  have h1 : ([13] : List Int).length = 1 := rfl
  rw [h1]
  by_cases hn : l = []
  · subst hn
    rfl
  · have hp : 0 < l.length := List.length_pos_iff.mpr hn
    have hw : wrap64 ((l.length : Int) - ((1 : Nat) : Int)) = ((l.length - 1 : Nat) : Int) := by unfold wrap64; omega
    rw [hw, if_pos (by omega), if_pos (by omega), if_pos (by omega), Int.toNat_natCast]
    have hm := rd_mem l (l.length - 1) (by omega)
    have hb := hB _ hm
    have hd : l.drop (l.length - 1) = [rd l ((l.length - 1 : Nat) : Int)] := by
      rw [List.drop_eq_getElem_cons (by omega), List.drop_eq_nil_of_le (by omega)]
      simp [rd, List.getD_eq_getElem?_getD, List.getElem?_eq_getElem (show l.length - 1 < l.length by omega)]
    unfold bytes_Equal.f
    have hc : ((l.length - 1 : Nat) : Int) = (l.length : Int) - 1 := by omega
    rw [hd, eq13 _ hb.1 hb.2, hc]
    by_cases h13 : rd l ((l.length : Int) - 1) = 13
    · simp only [h13, decide_true, Option.bind_some, if_true, ne_eq, hn, not_false_eq_true, and_self]
      rw [if_pos (by omega), if_pos (by omega)]
    · simp [h13]
theorem drop_take_drop (b : List Int) (n m : Nat) : (b.take (n + m)).drop n = (b.drop n).take m := by
  rw [List.drop_take]
  congr 1
  omega
theorem Lines_run (b : List Int) (hb : b.length < 1000000) (hB : ∀ x ∈ b, 0 ≤ x ∧ x < 256) : Ev (fun k => scan_Lines.f k b) (linesS 0 [] b) := by
  have hl : ∀ (d n : Nat) (l : List Int) (out : List S33), b.drop n = l → l.length ≤ d → n ≤ b.length → out.length ≤ n →
      Ev (fun k => scan_Lines.l0 k b out (n : Int)) (out ++ linesS n [] l) := by
    intro d
    induction d with
    | zero =>
      intro n l out h hd hn ho
      obtain rfl : l = [] := List.length_eq_zero_iff.mp (by omega)
      have := dn h hn
      refine Ev.step (f := fun _ => some out) (fun k => ?_) (by simpa [linesS] using Ev.now out)
      simp only [scan_Lines.l0]
      rw [if_neg (by omega)]
    | succ d ih =>
      intro n l out h hd hn ho
      by_cases hl0 : l = []
      · exact ih n l out h (by simp [hl0]) hn ho
      have hlen : l.length = b.length - n := by rw [← h]; simp
      have hpos : 0 < l.length := List.length_pos_iff.mpr hl0
      have hBl : ∀ x ∈ l, 0 ≤ x ∧ x < 256 := fun x hx => hB x (by rw [← h] at hx; exact List.mem_of_mem_drop hx)
      have hi := index_nl l hBl
      have htw := tw_len (p := notNl) l
      have hdt := drop_tw (p := notNl) l
      have htt := take_tw (p := notNl) l
      rw [lines_tw]
      cases hdw : l.dropWhile notNl with
      | nil =>
        rw [if_pos hdw] at hi
        simp only [List.nil_append, if_neg hl0]
        refine Ev.step (f := fun _ => some (out ++ [(⟨1, strOfNums l, (n : Int)⟩ : S33)])) (fun k => ?_) (Ev.now _)
        simp only [scan_Lines.l0]
        rw [if_pos (by omega), if_pos (by omega), if_pos (by omega), Int.toNat_natCast, h, hi, Option.bind_some, if_pos (by omega), if_pos (by omega)]
      | cons c l' =>
        have hne : l.dropWhile notNl ≠ [] := by rw [hdw]; simp
        rw [if_neg hne] at hi
        rw [hdw] at htw hdt
        simp only [List.length_cons] at htw
        simp only [List.nil_append]
        generalize htl : l.takeWhile notNl = t at *
        have hlt : t.length < 1000000 := by omega
        have hBt : ∀ x ∈ t, 0 ≤ x ∧ x < 256 := fun x hx => hBl x (by rw [← htl] at hx; exact (List.takeWhile_prefix notNl).mem hx)
        have hnext : b.drop (n + t.length + 1) = l' := by
          have : b.drop (n + t.length) = c :: l' := by rw [← hdt, ← h, List.drop_drop]
          rw [← List.drop_drop, this]
          rfl
        have hcut : (b.take (n + t.length)).drop n = t := by rw [drop_take_drop, h, htt]
        have ih' := ih (n + t.length + 1) l' (out ++ [(⟨1, strOfNums (trim t), (n : Int)⟩ : S33)]) hnext (by omega) (by omega) (by rw [List.length_append, List.length_singleton]; omega)
        rw [List.append_assoc] at ih'
        refine Ev.step (f := fun k => scan_Lines.l0 k b (out ++ [(⟨1, strOfNums (trim t), (n : Int)⟩ : S33)]) ((n + t.length + 1 : Nat) : Int)) (fun k => ?_) ih'
        simp only [scan_Lines.l0]
        rw [if_pos (by omega), if_pos (by omega), if_pos (by omega), Int.toNat_natCast, h, hi, Option.bind_some, if_neg (by omega), wrap_nn n t.length (by omega), if_pos (by omega), if_pos (by omega), Int.toNat_natCast, hcut, Trim_run t hlt hBt, Option.bind_some, if_pos (by omega), wrap_n1 t.length (by omega), wrap_nn n (t.length + 1) (by omega), ← Nat.add_assoc]
  refine Ev.congr (fun k => ?_) (hl b.length 0 b [] rfl (Nat.le_refl _) (Nat.zero_le _) (Nat.le_refl _))
  rfl
theorem rLines_run (b : List Int) (hb : b.length < 1000000) : Ev (fun k => gleberef7_Lines.f k b) (linesS 0 [] b) := by
  have hl : ∀ (l : List Int) (f n : Nat) (cur : List Int) (out : List S33), b.drop n = l → n ≤ b.length → f + cur.length = n → (b.take n).drop f = cur → out.length ≤ n →
      Ev (fun k => gleberef7_Lines.l0 k b out (f : Int) (n : Int)) (out ++ linesS f cur l) := by
    intro l
    induction l with
    | nil =>
      intro f n cur out h hn hf hcur ho
      have hnb := dn h hn
      have hstop : ∀ o, Ev (fun k => gleberef7_Lines.l0 k b o ((n + 1 : Nat) : Int) ((n + 1 : Nat) : Int)) o := fun o => by
        refine Ev.step (f := fun _ => some o) (fun k => ?_) (Ev.now _)
        simp only [gleberef7_Lines.l0]
        rw [if_neg (by omega)]
      have hstop' : ∀ o, Ev (fun k => gleberef7_Lines.l0 k b o (f : Int) ((n + 1 : Nat) : Int)) o := fun o => by
        refine Ev.step (f := fun _ => some o) (fun k => ?_) (Ev.now _)
        simp only [gleberef7_Lines.l0]
        rw [if_neg (by omega)]
      refine Ev.step (f := fun k => gleberef7_Lines.j1 k b out (f : Int) (n : Int) ((f : Int) == (n : Int))) (fun k => ?_) ?_
      · simp only [gleberef7_Lines.l0]
        rw [if_pos (by omega), if_neg (by omega), if_pos (by omega)]
      · unfold linesS
        by_cases hc : cur = []
        · subst hc
          have hfn : (f : Int) = (n : Int) := by simp at hf; omega
          rw [if_pos rfl, List.append_nil]
          refine Ev.step (f := fun k => gleberef7_Lines.l0 k b out (f : Int) ((n + 1 : Nat) : Int)) (fun k => ?_) (hstop' out)
          simp only [gleberef7_Lines.j1]
          rw [if_pos (by rw [hfn]; exact beq_self_eq_true _), wrap_nat (by omega)]
        · have hpos : 0 < cur.length := List.length_pos_iff.mpr hc
          rw [if_neg hc]
          refine Ev.step (f := fun k => gleberef7_Lines.l0 k b (out ++ [(⟨1, strOfNums cur, (f : Int)⟩ : S33)]) ((n + 1 : Nat) : Int) ((n + 1 : Nat) : Int)) (fun k => ?_) (hstop _)
          simp only [gleberef7_Lines.j1]
          rw [if_neg (by simp; omega), if_neg (by omega), if_pos (by omega), if_pos (by omega), if_pos (by omega), if_pos (by omega), Int.toNat_natCast, Int.toNat_natCast, hcur, wrap_nat (by omega)]
    | cons c l ih =>
      intro f n cur out h hn hf hcur ho
      obtain ⟨h1, h2, h3, h4⟩ := dc h
      rw [linesS_cons]
      by_cases hc : c = 10
      · subst hc
        rw [if_pos rfl]
        have ih' := ih (n + 1) (n + 1) [] (out ++ [(⟨1, strOfNums (trim cur), (f : Int)⟩ : S33)]) h3 (by omega) (by simp) (by simp) (by simp; omega)
        rw [List.append_assoc, show n + 1 = f + cur.length + 1 by omega] at ih'
        refine Ev.step (f := fun k => gleberef7_Lines.j1 k b out (f : Int) (n : Int) false) (fun k => ?_) (Ev.step (f := fun k => gleberef7_Lines.l0 k b (out ++ [(⟨1, strOfNums (trim cur), (f : Int)⟩ : S33)]) ((f + cur.length + 1 : Nat) : Int) ((f + cur.length + 1 : Nat) : Int)) (fun k => ?_) ih')
        · simp only [gleberef7_Lines.l0]
          rw [if_pos (by omega), if_pos (by omega), if_pos (by omega), h2, if_pos rfl, if_neg (by omega)]
        · simp only [gleberef7_Lines.j1]
          have hfc : f + cur.length + 1 = n + 1 := by omega
          rw [if_neg (by simp), if_pos (by omega), hfc]
          by_cases hcc : cur = []
          · have hfn : n = f := by simp [hcc] at hf; omega
            rw [if_neg (by omega), if_pos (by omega), if_pos (by omega), if_pos (by omega), if_pos (by omega), Int.toNat_natCast, Int.toNat_natCast, hcur, wrap_n1 n (by omega)]
            simp [hcc, trim]
          · have hpos : 0 < cur.length := List.length_pos_iff.mpr hcc
            have hrd : rd b ((n - 1 : Nat) : Int) = rd cur ((cur.length : Int) - 1) := by
              rw [← hcur]
              have e1 : ((b.take n).drop f).length = n - f := by simp; omega
              rw [e1]
              simp only [rd, List.getD_eq_getElem?_getD, List.getElem?_drop, List.getElem?_take]
              have e2 : f + (((n - f : Nat) : Int) - 1).toNat = n - 1 := by omega
              rw [e2, if_pos (by omega), Int.toNat_natCast]
            rw [if_pos (by omega), wrap_pred n (by omega) (by omega), if_pos (by omega), if_pos (by omega), hrd]
            by_cases h13 : rd cur ((cur.length : Int) - 1) = 13
            · have ht : (b.take (n - 1)).drop f = trim cur := by
                unfold trim
                rw [if_pos ⟨hcc, h13⟩, ← hcur]
                have e1 : ((b.take n).drop f).length - 1 = n - 1 - f := by simp; omega
                rw [e1, List.drop_take, List.drop_take, List.take_take, Nat.min_eq_left (by omega)]
              rw [if_pos h13, if_pos (by omega), if_pos (by omega), if_pos (by omega), if_pos (by omega), Int.toNat_natCast, Int.toNat_natCast, ht, wrap_n1 n (by omega)]
            · rw [if_neg h13, if_pos (by omega), if_pos (by omega), if_pos (by omega), if_pos (by omega), Int.toNat_natCast, Int.toNat_natCast, hcur, wrap_n1 n (by omega)]
              unfold trim
              rw [if_neg (fun hh => h13 hh.2)]
      · rw [if_neg hc]
        have hcur' : (b.take (n + 1)).drop f = cur ++ [c] := by
          rw [take_succ_rd b n h1, List.drop_append_of_le_length (by simp; omega), hcur, h2]
        have ih' := ih f (n + 1) (cur ++ [c]) out h3 (by omega) (by simp; omega) hcur' (by omega)
        refine Ev.step (f := fun k => gleberef7_Lines.j1 k b out (f : Int) (n : Int) true) (fun k => ?_) (Ev.step (f := fun k => gleberef7_Lines.l0 k b out (f : Int) ((n + 1 : Nat) : Int)) (fun k => ?_) ih')
        · simp only [gleberef7_Lines.l0]
          rw [if_pos (by omega), if_pos (by omega), if_pos (by omega), h2, if_neg hc]
        · simp only [gleberef7_Lines.j1]
          rw [if_pos trivial, wrap_nat (by omega)]
  refine Ev.congr (fun k => ?_) (hl b 0 0 [] [] rfl (Nat.zero_le _) rfl (by simp) (Nat.le_refl _))
  rfl
theorem Same_run (x : List S33) (hx : x.length ≤ 1000000) : Ev (fun k => gleberef7_SameToks.f k x x) true := by
  have hl : ∀ (d i : Nat), i + d = x.length → Ev (fun k => gleberef7_SameToks.l0 k x x (i : Int)) true := by
    intro d
    induction d with
    | zero =>
      intro i hi
      refine Ev.step (f := fun _ => some true) (fun k => ?_) (Ev.now _)
      simp only [gleberef7_SameToks.l0]
      rw [if_neg (by omega)]
    | succ d ih =>
      intro i hi
      refine Ev.step (f := fun k => gleberef7_SameToks.l0 k x x ((i + 1 : Nat) : Int)) (fun k => ?_) (ih (i + 1) (by omega))
      simp only [gleberef7_SameToks.l0]
      rw [if_pos (by omega), if_pos (by omega), if_pos (by omega), if_neg (by simp), wrap_nat (by omega)]
  refine Ev.congr (fun k => ?_) (hl x.length 0 (by omega))
  unfold gleberef7_SameToks.f
  rw [if_pos rfl]
  rfl
/-! ### what the document fixes -/
theorem aw_where : (scan_Where.f 100 [97, 10, 98] 2 == some (2, 1)) = true := by kernel_rfl
theorem aw_same : (((scan_Lines.f 100 [97, 13, 10, 10, 98, 13]).bind fun t => gleberef7_SameToks.f 100 t [(⟨1, (⟨#[97]⟩ : ByteArray), 0⟩ : S33), (⟨1, (⟨#[]⟩ : ByteArray), 3⟩ : S33), (⟨1, (⟨#[98, 13]⟩ : ByteArray), 4⟩ : S33)]) == some true) = true := by kernel_rfl
theorem aw100 : glebelaw7_awake.f 100 = some true := by
  have h1 := eq_of_beq aw_where
  have h2 := eq_of_beq aw_same
  cases hl : scan_Lines.f 100 [97, 13, 10, 10, 98, 13] with
  | none => rw [hl] at h2; cases h2
  | some t =>
    rw [hl, Option.bind_some] at h2
    unfold glebelaw7_awake.f
    rw [h1, Option.bind_some, hl, Option.bind_some]
    unfold scan_Long.f
    rw [List.length_replicate, List.length_replicate, if_pos (by decide), if_neg (by decide), Option.bind_some, Option.bind_some, if_pos rfl, if_pos rfl, h2, Option.bind_some]
    rfl
theorem awS : Ev (fun k => glebelaw7_awake.f k) true := Ev.of (fun k => glebelaw7_awake.mono k) (k := 100) aw100
theorem awB {α : Type} (f : Nat → Bool → Option α) (r : α) (h : Ev (fun k => f k true) r) : Ev (fun k => (glebelaw7_awake.f k).bind (f k)) r :=
  Ev.bind (g := fun k => glebelaw7_awake.f k) awS h
end Go.Proofs.Ytnkcffmklomfhaa.ScanS
