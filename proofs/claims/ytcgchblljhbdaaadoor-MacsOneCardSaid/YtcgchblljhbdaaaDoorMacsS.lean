/- Hardware addresses and names, in plain lists: what the program's reader and the document's reader both come to. -/
import Derived.Test.YtcgchblljhbdaaaDoorMx1
import Derived.Test.YtcgchblljhbdaaaDoorMx2
import Derived.Test.YtcgchblljhbdaaaDoorMx5
import Derived.Test.YtcgchblljhbdaaaDoorMx6
import Derived.Test.YtcgchblljhbdaaaDoorPL
import Derived.Laws.BitsLemmas
import Derived.Lib.LazyBuf
import Derived.Lib.SplitLaws
import Derived.Lib.IndexLaws
namespace Go.Proofs.YtcgchblljhbdaaaDoor.MacsS
open Go Go.RowKit Go.Proofs.YtcgchblljhbdaaaDoorW.PrintWords Go.Proofs.YtcgchblljhbdaaaDoorW.PrintMore Go.Proofs.YtcgchblljhbdaaaDoor.PL Go.Proofs.YtcgchblljhbdaaaDoor.M
set_option linter.unusedSimpArgs false
set_option linter.unusedVariables false
/-! ### pieces between a sign -/
def sp (c : UInt8) (cur : List UInt8) : List UInt8 → List (List UInt8)
  | [] => [cur]
  | x :: l => if x = c then cur :: sp c [] l else sp c (cur ++ [x]) l
theorem sp_cons (c : UInt8) (cur : List UInt8) (x : UInt8) (l : List UInt8) : sp c cur (x :: l) = if x = c then cur :: sp c [] l else sp c (cur ++ [x]) l := rfl
theorem sp_none (c : UInt8) : ∀ (l cur : List UInt8), c ∉ l → sp c cur l = [cur ++ l] := by
  intro l
  induction l with
  | nil => intro cur _; simp [sp]
  | cons x l ih =>
    intro cur h
    simp only [List.mem_cons, not_or] at h
    rw [sp_cons, if_neg (fun e => h.1 e.symm), ih _ h.2]
    simp
theorem sp_hit (c : UInt8) : ∀ (a cur b : List UInt8), c ∉ a → sp c cur (a ++ c :: b) = (cur ++ a) :: sp c [] b := by
  intro a
  induction a with
  | nil => intro cur b _; simp [sp]
  | cons x a ih =>
    intro cur b h
    simp only [List.mem_cons, not_or] at h
    rw [List.cons_append, sp_cons, if_neg (fun e => h.1 e.symm), ih _ _ h.2]
    simp
theorem sp_len (c : UInt8) : ∀ (l cur : List UInt8), (sp c cur l).length ≤ l.length + 1 := by
  intro l
  induction l with
  | nil => intro cur; simp [sp]
  | cons x l ih =>
    intro cur
    rw [sp_cons]
    split
    · have := ih []; simp; omega
    · have := ih (cur ++ [x]); simp; omega
theorem splitK_sp (c : UInt8) : ∀ (n : Nat) (s : List UInt8) (k : Nat), s.length ≤ n → s.count c ≤ k → Lib.splitK [c] 0 k s = sp c [] s := by
  intro n
  induction n with
  | zero =>
    intro s k hs hk
    obtain rfl := List.eq_nil_of_length_eq_zero (by omega : s.length = 0)
    cases k with
    | zero => rfl
    | succ k => simp [Lib.splitK, Lib.index_one, Lib.indexByte, sp]
  | succ n ih =>
    intro s k hs hk
    by_cases hm : c ∈ s
    · have hc : 0 < s.count c := List.count_pos_iff.2 hm
      obtain ⟨k, rfl⟩ : ∃ j, k = j + 1 := ⟨k - 1, by omega⟩
      have h1 : Lib.indexByte s c ≠ -1 := by
        intro e
        obtain ⟨j, hj, e2⟩ := List.mem_iff_getElem.1 hm
        exact Lib.indexByte_none e j (by rw [List.getElem?_eq_getElem hj, e2])
      have h2 := Lib.indexByte_ge s c
      obtain ⟨o, ho⟩ : ∃ o : Nat, Lib.indexByte s c = o := ⟨(Lib.indexByte s c).toNat, by omega⟩
      obtain ⟨g1, g2⟩ := Lib.indexByte_some ho
      have hol : o < s.length := (List.getElem?_eq_some_iff.1 g1).1
      have hd : s.drop o = c :: s.drop (o + 1) := by
        rw [List.drop_eq_getElem_cons hol]
        rw [List.getElem?_eq_getElem hol] at g1
        injection g1 with g1
        rw [g1]
      have hs2 : s = s.take o ++ c :: s.drop (o + 1) := by rw [← hd, List.take_append_drop]
      have hna : c ∉ s.take o := by
        intro hx
        obtain ⟨j, hj, e2⟩ := List.mem_iff_getElem.1 hx
        have hj' : j < o := by simp at hj; omega
        refine g2 j hj' ?_
        rw [List.getElem_take] at e2
        rw [List.getElem?_eq_getElem (by omega), e2]
      have hcnt : (s.drop (o + 1)).count c ≤ k := by
        have : s.count c = (s.take o).count c + (1 + (s.drop (o + 1)).count c) := by
          conv => lhs; rw [hs2]
          rw [List.count_append, List.count_cons_self]
          omega
        omega
      rw [Lib.splitK, Lib.index_one, if_neg (by simpa using h1), ho]
      simp only [Int.toNat_natCast, Nat.add_zero, List.length_singleton]
      rw [ih _ k (by simp; omega) hcnt]
      conv => rhs; rw [hs2, sp_hit c _ _ _ hna]
      simp
    · rw [sp_none c s [] hm, List.nil_append]
      have h1 : Lib.indexByte s c = -1 := by
        have h2 := Lib.indexByte_ge s c
        by_cases e : Lib.indexByte s c = -1
        · exact e
        · obtain ⟨o, ho⟩ : ∃ o : Nat, Lib.indexByte s c = o := ⟨(Lib.indexByte s c).toNat, by omega⟩
          obtain ⟨g1, _⟩ := Lib.indexByte_some ho
          exact absurd (List.mem_of_getElem? g1) hm
      cases k with
      | zero => rfl
      | succ k => rw [Lib.splitK, Lib.index_one, h1]; rfl
theorem dlen (s : ByteArray) : s.data.toList.length = s.size := rfl
def mk (l : List UInt8) : ByteArray := ⟨l.toArray⟩
def pieces (c : UInt8) (s : ByteArray) : List ByteArray := (sp c [] s.data.toList).map mk
theorem split_f (s : ByteArray) (hs : s.size < 4294967281) : strings_Split.f s (⟨#[58]⟩ : ByteArray) = some (pieces 58 s) := by
  unfold strings_Split.f
  rw [if_pos (show (⟨#[58]⟩ : ByteArray).size = 1 from rfl), if_pos hs]
  have h := Lib.splitB_data ⟨#[58]⟩ 0 (Lib.countB s ⟨#[58]⟩) s
  have e : (⟨#[58]⟩ : ByteArray).data.toList = [58] := rfl
  rw [e, splitK_sp 58 _ _ _ (Nat.le_refl _) (by show s.data.toList.count 58 ≤ Lib.count s.data.toList [58]; rw [Lib.count_one]; exact Nat.le_refl _)] at h
  unfold pieces
  rw [← h, List.map_map]
  congr 1
  conv => lhs; rw [← List.map_id (Lib.splitB _ _ _ _)]
  apply List.map_congr_left
  intro x _
  rfl
theorem bt_data (s : ByteArray) (n : Nat) (c : UInt8) (l : List UInt8) (h : s.data.toList.drop n = c :: l) : n < s.size ∧ bt s (n : Int) = (c.toNat : Int) ∧ s.data.toList.drop (n + 1) = l ∧ s.size = n + 1 + l.length := by
  have hl := congrArg List.length h
  have hsz := dlen s
  rw [List.length_drop, hsz, List.length_cons] at hl
  have hn : n < s.data.toList.length := by omega
  have e := List.drop_eq_getElem_cons hn
  rw [h] at e
  injection e with e1 e2
  refine ⟨by omega, ?_, e2.symm, by omega⟩
  unfold bt
  have hn2 : n < s.size := by rw [← dlen]; exact hn
  rw [dif_pos (show ((n : Int)).toNat < s.size from hn2)]
  rw [e1]
  rfl
theorem bt_nil (s : ByteArray) (n : Nat) (h : s.data.toList.drop n = []) (hn : n ≤ s.size) : n = s.size := by
  have hl := congrArg List.length h
  rw [List.length_drop, dlen, List.length_nil] at hl
  omega
theorem extract_mk (s : ByteArray) (a b : Nat) (h : b ≤ s.size) : s.extract a b = mk ((s.data.toList.take b).drop a) := by
  have h1 : (s.extract a b).data.toList = (s.data.toList.take b).drop a := by
    rw [Lib.extract_data]
    simp [List.drop_take]
  rw [← h1]
  rfl
theorem eqc (x c : UInt8) : ((x.toNat : Int) = (c.toNat : Int)) ↔ x = c := by
  constructor
  · intro h
    exact UInt8.toNat_inj.1 (by omega)
  · rintro rfl; rfl
theorem rsplit_run (s : ByteArray) (c : UInt8) (hs : s.size < 1048576) : ∀ (l : List UInt8) (out : List ByteArray) (fr n : Nat), s.data.toList.drop n = l → fr ≤ n → n ≤ s.size → out.length ≤ n →
    Ev (fun k => gleberef1_Split.l0 k s (c.toNat : Int) out (fr : Int) (n : Int)) (out ++ (sp c ((s.data.toList.take n).drop fr) l).map mk) := by
  intro l
  induction l with
  | nil =>
    intro out fr n h hf hn ho
    have he := bt_nil s n h hn
    refine Ev.step (f := fun k => gleberef1_Split.l0 k s (c.toNat : Int) (out ++ [s.extract fr n]) ((n + 1 : Nat) : Int) ((n + 1 : Nat) : Int)) (fun k => ?_) (Ev.step (f := fun _ => some _) (fun k => ?_) (Ev.now _))
    · simp only [gleberef1_Split.l0]
      rw [if_pos (by omega), if_pos (by omega), if_pos (by omega), if_pos (by omega), if_pos (by omega), wrap_nat (by omega)]
      rfl
    · simp only [gleberef1_Split.l0]
      rw [if_neg (by omega), extract_mk s fr n hn]
      simp [sp]
  | cons x l ih =>
    intro out fr n h hf hn ho
    obtain ⟨h1, h2, h3, h4⟩ := bt_data s n x l h
    have htk : (s.data.toList.take (n + 1)).drop fr = (s.data.toList.take n).drop fr ++ [x] := by
      have hn' : n < s.data.toList.length := by rw [dlen]; exact h1
      rw [List.take_succ_eq_append_getElem hn', List.drop_append_of_le_length (by simp; omega)]
      have := List.drop_eq_getElem_cons hn'
      rw [h] at this
      injection this with e1 _
      rw [e1]
    by_cases hx : x = c
    · subst hx
      refine Ev.step (f := fun k => gleberef1_Split.l0 k s (x.toNat : Int) (out ++ [s.extract fr n]) ((n + 1 : Nat) : Int) ((n + 1 : Nat) : Int)) (fun k => ?_) ?_
      · simp only [gleberef1_Split.l0]
        rw [if_pos (by omega), if_neg (by omega), if_pos (by omega), if_pos (by omega), h2, if_pos rfl, if_pos (by omega), if_pos (by omega), if_pos (by omega), wrap_nat (by omega)]
        rfl
      · have := ih (out ++ [s.extract fr n]) (n + 1) (n + 1) h3 (Nat.le_refl _) (by omega) (by simp; omega)
        rw [sp_cons, if_pos rfl]
        rw [extract_mk s fr n (by omega)] at this ⊢
        simpa using this
    · refine Ev.step (f := fun k => gleberef1_Split.l0 k s (c.toNat : Int) out (fr : Int) ((n + 1 : Nat) : Int)) (fun k => ?_) ?_
      · simp only [gleberef1_Split.l0]
        rw [if_pos (by omega), if_neg (by omega), if_pos (by omega), if_pos (by omega), h2, if_neg (fun e => hx ((eqc x c).1 e)), wrap_nat (by omega)]
      · have := ih out fr (n + 1) h3 (by omega) (by omega) (by omega)
        rw [htk] at this
        rw [sp_cons, if_neg hx]
        exact this
theorem rsplit (s : ByteArray) (hs : s.size < 1048576) : Ev (fun k => gleberef1_Split.f k s 58) (pieces 58 s) := by
  have h := rsplit_run s 58 hs s.data.toList [] 0 0 rfl (Nat.le_refl _) (Nat.zero_le _) (Nat.le_refl _)
  exact h
/-! ### digits -/
def dg (c : Int) : Int := (macs_digit.f c).getD (-1)
theorem dg_f (c : Int) (h0 : 0 ≤ c) (h1 : c < 256) : macs_digit.f c = some (dg c) :=
  eq_of_beq (byteB (p := fun c => macs_digit.f c == some (dg c)) (by kernel_rfl) c h0 h1)
theorem hex_f (c : Int) (h0 : 0 ≤ c) (h1 : c < 256) : Ev (fun k => gleberef1_Hex.f k c) (dg c) :=
  Ev.of (fun k => gleberef1_Hex.mono c k) (k := 5) (eq_of_beq (byteB (p := fun c => gleberef1_Hex.f 5 c == some (dg c)) (by kernel_rfl) c h0 h1))
theorem dg_range (c : Int) (h0 : 0 ≤ c) (h1 : c < 256) : -1 ≤ dg c ∧ dg c < 16 := by
  have := byteB (p := fun c => decide (-1 ≤ dg c) && decide (dg c < 16)) (by kernel_rfl) c h0 h1
  simpa using this
/-! ### the number of pieces -/
def okp (x : ByteArray) : Bool := x.size == 2 && decide (0 ≤ dg (bt x 0)) && decide (0 ≤ dg (bt x 1))
def st (acc : Int) (x : ByteArray) : Int := Go.bits .or .u64 (IntKind.u64.wrap (acc * 256)) (IntKind.u64.wrap (wrap64 ((wrap64 (16 * dg (bt x 0))) + dg (bt x 1))))
def macV (ps : List ByteArray) : Int × Bool := if ps.all okp = true ∧ ps.length = 6 then (ps.foldl st 0, true) else (0, false)
theorem dcB {ps l : List ByteArray} {n : Nat} {x : ByteArray} (h : ps.drop n = x :: l) : n < ps.length ∧ rdOf ByteArray.empty ps (n : Int) = x ∧ ps.drop (n + 1) = l ∧ ps.length = n + 1 + l.length := by
  have hl := congrArg List.length h
  simp at hl
  have hn : n < ps.length := by omega
  have e := List.drop_eq_getElem_cons hn
  rw [h] at e
  injection e with e1 e2
  refine ⟨hn, ?_, e2.symm, by omega⟩
  simp [rdOf, List.getD_eq_getElem?_getD, List.getElem?_eq_getElem hn, e1]
theorem dnB {ps : List ByteArray} {n : Nat} (h : ps.drop n = []) (hn : n ≤ ps.length) : n = ps.length := by
  have := congrArg List.length h
  simp at this
  omega
theorem bt_lt (s : ByteArray) (i : Int) : 0 ≤ bt s i ∧ bt s i < 256 := by
  have := bt_range s i
  omega
theorem parse_run (ps : List ByteArray) (hp : ps.length < 4611686018427387904) : ∀ (l : List ByteArray) (n : Nat) (acc : Int), ps.drop n = l → n ≤ ps.length →
    Ev (fun k => macs_Parse.l0 k ps acc ps (ps.length : Int) (n : Int)) (if l.all okp = true ∧ ps.length = 6 then (l.foldl st acc, true) else (0, false)) := by
  intro l
  induction l with
  | nil =>
    intro n acc h hn
    have he := dnB h hn
    refine Ev.step (f := fun _ => some _) (fun k => ?_) (Ev.now _)
    simp only [macs_Parse.l0]
    rw [if_neg (by omega)]
    by_cases h6 : ps.length = 6
    · rw [if_pos (by omega), if_pos ⟨rfl, h6⟩]; rfl
    · rw [if_neg (by omega), if_neg (fun z => h6 z.2)]
  | cons x l ih =>
    intro n acc h hn
    obtain ⟨h1, h2, h3, h4⟩ := dcB h
    have b0 := bt_lt x 0
    have b1 := bt_lt x 1
    have e0 := dg_f _ b0.1 b0.2
    have e1 := dg_f _ b1.1 b1.2
    have hbad : okp x = false → ∀ k, macs_Parse.j1 (k + 1) ps acc x ps (ps.length : Int) (n : Int) true = some (if (x :: l).all okp = true ∧ ps.length = 6 then ((x :: l).foldl st acc, true) else (0, false)) := by
      intro hx k
      simp only [macs_Parse.j1]
      rw [if_pos trivial, if_neg (by rw [List.all_cons, hx]; simp)]
    by_cases hs : x.size = 2
    · by_cases hd0 : dg (bt x 0) < 0
      · have hx : okp x = false := by
          simp [okp, hs]
          intro h
          omega
        refine Ev.step (f := fun k => macs_Parse.j1 k ps acc x ps (ps.length : Int) (n : Int) true) (fun k => ?_) (Ev.step (f := fun _ => some _) (fun k => hbad hx k) (Ev.now _))
        simp only [macs_Parse.l0]
        rw [if_pos (by omega), if_pos (by omega), if_pos (by omega), h2, if_pos (by omega), if_pos (by omega), e0, Option.bind_some, if_pos hd0]
      · by_cases hd1 : dg (bt x 1) < 0
        · have hx : okp x = false := by
            simp [okp, hs]
            intro _
            omega
          refine Ev.step (f := fun k => macs_Parse.j1 k ps acc x ps (ps.length : Int) (n : Int) true) (fun k => ?_) (Ev.step (f := fun _ => some _) (fun k => hbad hx k) (Ev.now _))
          simp only [macs_Parse.l0]
          rw [if_pos (by omega), if_pos (by omega), if_pos (by omega), h2, if_pos (by omega), if_pos (by omega), e0, Option.bind_some, if_neg hd0, if_pos (by omega), e1, Option.bind_some, decide_eq_true hd1]
        · have hx : okp x = true := by
            simp [okp, hs]
            omega
          rw [List.all_cons, hx, Bool.true_and, List.foldl_cons]
          refine Ev.step (f := fun k => macs_Parse.j1 k ps acc x ps (ps.length : Int) (n : Int) false) (fun k => ?_) (Ev.step (f := fun k => macs_Parse.l0 k ps (st acc x) ps (ps.length : Int) ((n + 1 : Nat) : Int)) (fun k => ?_) (ih (n + 1) (st acc x) h3 (by omega)))
          · simp only [macs_Parse.l0]
            rw [if_pos (by omega), if_pos (by omega), if_pos (by omega), h2, if_pos (by omega), if_pos (by omega), e0, Option.bind_some, if_neg hd0, if_pos (by omega), e1, Option.bind_some, decide_eq_false hd1]
          · simp only [macs_Parse.j1]
            rw [if_neg (by simp), if_pos (by omega), e0, Option.bind_some, if_pos (by omega), e1, Option.bind_some, wrap_nat (by omega)]
            rfl
    · have hx : okp x = false := by simp [okp, hs]
      refine Ev.step (f := fun k => macs_Parse.j1 k ps acc x ps (ps.length : Int) (n : Int) true) (fun k => ?_) (Ev.step (f := fun _ => some _) (fun k => hbad hx k) (Ev.now _))
      simp only [macs_Parse.l0]
      rw [if_pos (by omega), if_pos (by omega), if_pos (by omega), h2, if_neg (by omega)]
theorem pieces_len (c : UInt8) (s : ByteArray) : (pieces c s).length ≤ s.size + 1 := by
  unfold pieces
  rw [List.length_map]
  have := sp_len c s.data.toList []
  rw [dlen] at this
  exact this
theorem parse (s : ByteArray) (hs : s.size < 1048576) : Ev (fun k => macs_Parse.f k s) (macV (pieces 58 s)) := by
  have hl := pieces_len 58 s
  refine Ev.congr (fun k => ?_) (parse_run (pieces 58 s) (by omega) (pieces 58 s) 0 0 rfl (Nat.zero_le _))
  unfold macs_Parse.f
  rw [split_f s (by omega), Option.bind_some]
  rfl
theorem mac_run (ps : List ByteArray) (hp : ps.length = 6) : ∀ (l : List ByteArray) (n : Nat) (acc : Int), ps.drop n = l → n ≤ ps.length →
    Ev (fun k => gleberef1_Mac.l0 k ps acc (n : Int)) (if l.all okp = true ∧ ps.length = 6 then (l.foldl st acc, true) else (0, false)) := by
  intro l
  induction l with
  | nil =>
    intro n acc h hn
    have he := dnB h hn
    refine Ev.step (f := fun _ => some _) (fun k => ?_) (Ev.now _)
    simp only [gleberef1_Mac.l0]
    rw [if_neg (by omega), if_pos ⟨rfl, hp⟩]
    rfl
  | cons x l ih =>
    intro n acc h hn
    obtain ⟨h1, h2, h3, h4⟩ := dcB h
    have b0 := bt_lt x 0
    have b1 := bt_lt x 1
    have e0 := hex_f _ b0.1 b0.2
    have e1 := hex_f _ b1.1 b1.2
    have hbad : okp x = false → Ev (fun k => gleberef1_Mac.j1 k ps acc (n : Int) true) (if (x :: l).all okp = true ∧ ps.length = 6 then ((x :: l).foldl st acc, true) else (0, false)) := by
      intro hx
      refine Ev.step (f := fun _ => some _) (fun k => ?_) (Ev.now _)
      simp only [gleberef1_Mac.j1]
      rw [if_pos trivial, if_neg (by rw [List.all_cons, hx]; simp)]
    by_cases hs : x.size = 2
    · refine Ev.step (f := fun k => (gleberef1_Hex.f k (bt x 0)).bind fun t190 => (if t190 < 0 then (gleberef1_Mac.j1 k ps acc (n : Int) true) else (if 1 < (x.size : Int) then ((gleberef1_Hex.f k (bt x 1)).bind fun t192 => (gleberef1_Mac.j1 k ps acc (n : Int) (decide (t192 < 0)))) else (none)))) (fun k => ?_) (Ev.bind (g := fun k => gleberef1_Hex.f k (bt x 0)) (f := fun k t190 => (if t190 < 0 then (gleberef1_Mac.j1 k ps acc (n : Int) true) else (if 1 < (x.size : Int) then ((gleberef1_Hex.f k (bt x 1)).bind fun t192 => (gleberef1_Mac.j1 k ps acc (n : Int) (decide (t192 < 0)))) else (none)))) e0 ?_)
      · simp only [gleberef1_Mac.l0]
        rw [if_pos (by omega), if_pos (by omega), if_pos (by omega), h2, if_pos (by omega), if_pos (by omega)]
      by_cases hd0 : dg (bt x 0) < 0
      · have hx : okp x = false := by
          simp [okp, hs]
          intro h
          omega
        exact Ev.congr (fun k => by rw [if_pos hd0]) (hbad hx)
      · refine Ev.congr (fun k => by rw [if_neg hd0, if_pos (by omega)]) (Ev.bind (g := fun k => gleberef1_Hex.f k (bt x 1)) (f := fun k t192 => (gleberef1_Mac.j1 k ps acc (n : Int) (decide (t192 < 0)))) e1 ?_)
        by_cases hd1 : dg (bt x 1) < 0
        · have hx : okp x = false := by
            simp [okp, hs]
            intro _
            omega
          rw [decide_eq_true hd1]
          exact hbad hx
        · have hx : okp x = true := by
            simp [okp, hs]
            omega
          rw [List.all_cons, hx, Bool.true_and, List.foldl_cons, decide_eq_false hd1]
          refine Ev.step (f := fun k => (gleberef1_Hex.f k (bt x 0)).bind fun t194 => (if 1 < (x.size : Int) then ((gleberef1_Hex.f k (bt x 1)).bind fun t196 => (gleberef1_Mac.l0 k ps (Go.bits .or .u64 (IntKind.u64.wrap (acc * 256)) (IntKind.u64.wrap (wrap64 ((wrap64 (16 * t194)) + t196)))) ((n + 1 : Nat) : Int))) else (none))) (fun k => ?_)
            (Ev.bind (g := fun k => gleberef1_Hex.f k (bt x 0)) (f := fun k t194 => (if 1 < (x.size : Int) then ((gleberef1_Hex.f k (bt x 1)).bind fun t196 => (gleberef1_Mac.l0 k ps (Go.bits .or .u64 (IntKind.u64.wrap (acc * 256)) (IntKind.u64.wrap (wrap64 ((wrap64 (16 * t194)) + t196)))) ((n + 1 : Nat) : Int))) else (none))) e0
              (Ev.congr (fun k => by rw [if_pos (by omega)]) (Ev.bind (g := fun k => gleberef1_Hex.f k (bt x 1)) (f := fun k t196 => (gleberef1_Mac.l0 k ps (Go.bits .or .u64 (IntKind.u64.wrap (acc * 256)) (IntKind.u64.wrap (wrap64 ((wrap64 (16 * dg (bt x 0))) + t196)))) ((n + 1 : Nat) : Int))) e1 (ih (n + 1) (st acc x) h3 (by omega)))))
          simp only [gleberef1_Mac.j1]
          rw [if_neg (by simp), if_pos (by omega), if_pos (by omega), h2, if_pos (by omega), wrap_nat (by omega)]
    · have hx : okp x = false := by simp [okp, hs]
      refine Ev.step (f := fun k => gleberef1_Mac.j1 k ps acc (n : Int) true) (fun k => ?_) (hbad hx)
      simp only [gleberef1_Mac.l0]
      rw [if_pos (by omega), if_pos (by omega), if_pos (by omega), h2, if_neg (by omega)]
theorem mac (s : ByteArray) (hs : s.size < 1048576) : Ev (fun k => gleberef1_Mac.f k s) (macV (pieces 58 s)) := by
  refine Ev.bind (g := fun k => gleberef1_Split.f k s 58) (f := fun k t185 => (if (t185.length : Int) = 6 then (gleberef1_Mac.l0 k t185 0 0) else (some (0, false)))) (rsplit s hs) ?_
  by_cases h6 : (pieces 58 s).length = 6
  · exact Ev.congr (fun k => by rw [if_pos (by omega)]; rfl) (mac_run (pieces 58 s) h6 (pieces 58 s) 0 0 rfl (Nat.zero_le _))
  · refine Ev.congr (fun k => ?_) (Ev.now _)
    rw [if_neg (by omega)]
    unfold macV
    rw [if_neg (fun z => h6 z.2)]
end Go.Proofs.YtcgchblljhbdaaaDoor.MacsS
