/- However long a part is, behind however many, with something wrong in it or nothing, it is told as it should be. -/
import Derived.Test.YtnkcffmklomfhaaDx8
import Derived.Test.YtnkcffmklomfhaaDnslS
namespace Go.Proofs.Ytnkcffmklomfhaa.Pure
open Go Go.RowKit Go.Proofs.Ytnkcffmklomfhaa.D Go.Proofs.YtnkcffmklomfhaaW.PrintWords Go.Proofs.YtnkcffmklomfhaaW.PrintLast Go.Proofs.Ytnkcffmklomfhaa.PL Go.Proofs.Ytnkcffmklomfhaa.DnslS
set_option linter.unusedSimpArgs false
set_option linter.unusedVariables false
theorem awD : Ev (fun k => glebelaw10_awake.f k) true := Ev.of (fun k => glebelaw10_awake.mono k) (k := 100) (by kernel_rfl)
theorem drop_bytes (s : ByteArray) (n : Nat) (hn : n ≤ s.size) : bytesOf (s.extract n s.size) = (bytesOf s).drop n := by
  rw [bytesOf_extract, ← len_bytes, List.take_length]
theorem ext_size (s : ByteArray) (n : Nat) (hn : n ≤ s.size) : (s.extract n s.size).size = s.size - n := by
  rw [← len_bytes, drop_bytes s n hn, List.length_drop, len_bytes]
/-- One part, and what is behind its comma. -/
theorem row_step (s : ByteArray) (hs : s.size < 1000000) (n : Nat) (p rest : List Int) (kd : Int) (tx : ByteArray) (kk : ByteArray) (out : List S33) (at0 : Int) (hd : (bytesOf s).drop n = p ++ 44 :: rest) (hn : n ≤ s.size) (hp : ∀ x ∈ p, isP x = true) (hl : p.length ≤ 255) (ho : out.length < 1000000) {r : ByteArray × (List S33) × Int × Int × Int}
    (K : Ev (fun k => dnsl_row.l0 k s ((n + p.length + 1 : Nat) : Int) kd tx 0 kk (out ++ [(⟨6, strOfNums p, (n : Int)⟩ : S33)]) at0) r) : Ev (fun k => dnsl_row.l0 k s (n : Int) kd tx 0 kk out at0) r := by
  have hlb := len_bytes s
  have hdl := congrArg List.length hd
  simp only [List.length_drop, List.length_append, List.length_cons] at hdl
  have hpart := part_run (s.extract n s.size) (by rw [ext_size s n hn]; omega)
  rw [drop_bytes s n hn, hd, partS_ok p _ 0 hp] at hpart
  have e1 : partS (44 :: rest) (0 + p.length) = ((p.length : Int), true) := by
    simp [partS]
  rw [e1] at hpart
  have hcut : s.extract n (n + p.length) = strOfNums p := by
    rw [extract_strOf]
    congr 1
    rw [List.drop_take, hd, show n + p.length - n = p.length by omega, List.take_left]
  refine Ev.step (f := fun k => (dnsl_part.f k (s.extract n s.size)).bind fun bt => (if bt.2 = true then (if bt.1 > 255 then (some ((⟨#[]⟩ : ByteArray), ([] : List (S33)), 0, 2, wrap64 (0 + (n : Int)))) else (if (n : Int) ≤ (wrap64 ((n : Int) + bt.1)) then (if (wrap64 ((n : Int) + bt.1)) ≤ (s.size : Int) then (if out.length < 4398046511104 then ((some (out ++ [(⟨6, s.extract ((n : Int)).toNat ((wrap64 ((n : Int) + bt.1)) : Int).toNat, wrap64 (0 + (n : Int))⟩ : S33)] : List (S33))).bind fun y137 => (if (wrap64 ((n : Int) + (wrap64 (bt.1 + 1)))) > (s.size : Int) then (some (kk, y137, at0, 0, 0)) else (dnsl_row.l0 k s (wrap64 ((n : Int) + (wrap64 (bt.1 + 1)))) kd tx 0 kk y137 at0))) else (none)) else (none)) else (none))) else (some ((⟨#[]⟩ : ByteArray), ([] : List (S33)), 0, 1, wrap64 ((wrap64 (0 + (n : Int))) + bt.1))))) (fun k => ?_) (Ev.bind (g := fun k => dnsl_part.f k (s.extract n s.size)) hpart (Ev.congr (fun k => ?_) K))
  · simp only [dnsl_row.l0]
    rw [if_pos (by omega), if_pos (by omega), Int.toNat_natCast]
  · rw [if_pos rfl, if_neg (by show ¬ (p.length : Int) > 255; omega)]
    show (if (n : Int) ≤ wrap64 ((n : Int) + (p.length : Int)) then _ else _) = _
    rw [wrap_nn n p.length (by omega), if_pos (by omega), if_pos (by omega), if_pos (by omega), Option.bind_some]
    show (if wrap64 ((n : Int) + wrap64 ((p.length : Int) + 1)) > (s.size : Int) then _ else dnsl_row.l0 k s (wrap64 ((n : Int) + wrap64 ((p.length : Int) + 1))) kd tx 0 kk _ at0) = _
    rw [wrap_n1 p.length (by omega), wrap_nn n (p.length + 1) (by omega), if_neg (by omega), Int.toNat_natCast, Int.toNat_natCast, hcut, ← Nat.add_assoc]
    have e0 : wrap64 (0 + (n : Int)) = (n : Int) := by unfold wrap64; omega
    rw [e0]
/-- The last part. -/
theorem row_last (s : ByteArray) (hs : s.size < 1000000) (n : Nat) (p : List Int) (kd : Int) (tx : ByteArray) (kk : ByteArray) (out : List S33) (at0 : Int) (hd : (bytesOf s).drop n = p) (hn : n ≤ s.size) (hp : ∀ x ∈ p, isP x = true) (hl : p.length ≤ 255) (ho : out.length < 1000000) :
    Ev (fun k => dnsl_row.l0 k s (n : Int) kd tx 0 kk out at0) (kk, out ++ [(⟨6, strOfNums p, (n : Int)⟩ : S33)], at0, 0, 0) := by
  have hlb := len_bytes s
  have hdl := congrArg List.length hd
  simp only [List.length_drop] at hdl
  have hpart := part_run (s.extract n s.size) (by rw [ext_size s n hn]; omega)
  have h2 := partS_ok p [] 0 hp
  rw [List.append_nil] at h2
  rw [drop_bytes s n hn, hd, h2] at hpart
  have e1 : partS [] (0 + p.length) = ((p.length : Int), true) := by
    simp [partS]
  rw [e1] at hpart
  have hcut : s.extract n (n + p.length) = strOfNums p := by
    rw [extract_strOf]
    congr 1
    rw [List.drop_take, hd, show n + p.length - n = p.length by omega, List.take_length]
  refine Ev.step (f := fun k => (dnsl_part.f k (s.extract n s.size)).bind fun bt => (if bt.2 = true then (if bt.1 > 255 then (some ((⟨#[]⟩ : ByteArray), ([] : List (S33)), 0, 2, wrap64 (0 + (n : Int)))) else (if (n : Int) ≤ (wrap64 ((n : Int) + bt.1)) then (if (wrap64 ((n : Int) + bt.1)) ≤ (s.size : Int) then (if out.length < 4398046511104 then ((some (out ++ [(⟨6, s.extract ((n : Int)).toNat ((wrap64 ((n : Int) + bt.1)) : Int).toNat, wrap64 (0 + (n : Int))⟩ : S33)] : List (S33))).bind fun y137 => (if (wrap64 ((n : Int) + (wrap64 (bt.1 + 1)))) > (s.size : Int) then (some (kk, y137, at0, 0, 0)) else (dnsl_row.l0 k s (wrap64 ((n : Int) + (wrap64 (bt.1 + 1)))) kd tx 0 kk y137 at0))) else (none)) else (none)) else (none))) else (some ((⟨#[]⟩ : ByteArray), ([] : List (S33)), 0, 1, wrap64 ((wrap64 (0 + (n : Int))) + bt.1))))) (fun k => ?_) (Ev.bind (g := fun k => dnsl_part.f k (s.extract n s.size)) hpart (Ev.congr (f := fun _ => some _) (fun k => ?_) (Ev.now _)))
  · simp only [dnsl_row.l0]
    rw [if_pos (by omega), if_pos (by omega), Int.toNat_natCast]
  · rw [if_pos rfl, if_neg (by show ¬ (p.length : Int) > 255; omega)]
    show (if (n : Int) ≤ wrap64 ((n : Int) + (p.length : Int)) then _ else _) = _
    rw [wrap_nn n p.length (by omega), if_pos (by omega), if_pos (by omega), if_pos (by omega), Option.bind_some]
    show (if wrap64 ((n : Int) + wrap64 ((p.length : Int) + 1)) > (s.size : Int) then _ else dnsl_row.l0 k s (wrap64 ((n : Int) + wrap64 ((p.length : Int) + 1))) kd tx 0 kk _ at0) = _
    rw [wrap_n1 p.length (by omega), wrap_nn n (p.length + 1) (by omega), if_pos (by omega), Int.toNat_natCast, Int.toNat_natCast, hcut]
    have e0 : wrap64 (0 + (n : Int)) = (n : Int) := by unfold wrap64; omega
    rw [e0]
/-- A part with a byte in it that can't stand there, or one that is too long. -/
theorem row_bad (s : ByteArray) (hs : s.size < 1000000) (n : Nat) (kd : Int) (tx : ByteArray) (kk : ByteArray) (out : List S33) (at0 : Int) (i : Nat) (b : Bool) (hn : n ≤ s.size) (hi : i < 1000000) (hp : partS ((bytesOf s).drop n) 0 = ((i : Int), b)) (hb : b = true → i > 255) :
    Ev (fun k => dnsl_row.l0 k s (n : Int) kd tx 0 kk out at0) ((⟨#[]⟩ : ByteArray), ([] : List S33), 0, (if b = true then 2 else 1), (if b = true then (n : Int) else ((n + i : Nat) : Int))) := by
  have hlb := len_bytes s
  have hpart := part_run (s.extract n s.size) (by rw [ext_size s n hn]; omega)
  rw [drop_bytes s n hn, hp] at hpart
  have e0 : wrap64 (0 + (n : Int)) = (n : Int) := by unfold wrap64; omega
  refine Ev.step (f := fun k => (dnsl_part.f k (s.extract n s.size)).bind fun bt => (if bt.2 = true then (if bt.1 > 255 then (some ((⟨#[]⟩ : ByteArray), ([] : List (S33)), 0, 2, wrap64 (0 + (n : Int)))) else (if (n : Int) ≤ (wrap64 ((n : Int) + bt.1)) then (if (wrap64 ((n : Int) + bt.1)) ≤ (s.size : Int) then (if out.length < 4398046511104 then ((some (out ++ [(⟨6, s.extract ((n : Int)).toNat ((wrap64 ((n : Int) + bt.1)) : Int).toNat, wrap64 (0 + (n : Int))⟩ : S33)] : List (S33))).bind fun y137 => (if (wrap64 ((n : Int) + (wrap64 (bt.1 + 1)))) > (s.size : Int) then (some (kk, y137, at0, 0, 0)) else (dnsl_row.l0 k s (wrap64 ((n : Int) + (wrap64 (bt.1 + 1)))) kd tx 0 kk y137 at0))) else (none)) else (none)) else (none))) else (some ((⟨#[]⟩ : ByteArray), ([] : List (S33)), 0, 1, wrap64 ((wrap64 (0 + (n : Int))) + bt.1))))) (fun k => ?_) (Ev.bind (g := fun k => dnsl_part.f k (s.extract n s.size)) hpart (Ev.congr (f := fun _ => some _) (fun k => ?_) (Ev.now _)))
  · simp only [dnsl_row.l0]
    rw [if_pos (by omega), if_pos (by omega), Int.toNat_natCast]
  · cases b with
    | true =>
      have := hb rfl
      rw [if_pos rfl, if_pos (by show (i : Int) > 255; omega), e0]
      rfl
    | false =>
      rw [if_neg (by simp), e0]
      show some (_, _, _, _, wrap64 ((n : Int) + (i : Int))) = _
      rw [wrap_nn n i (by omega)]
      rfl
/-! ### the text -/
def aS (m : Nat) : List Int := (List.replicate m [97, 44]).flatten
theorem aS_succ (m : Nat) : aS (m + 1) = [97, 44] ++ aS m := by simp [aS, List.replicate_succ]
theorem aS_succ' (m : Nat) : aS (m + 1) = aS m ++ [97, 44] := by simp [aS, List.replicate_succ']
theorem aS_len (m : Nat) : (aS m).length = 2 * m := by
  induction m with
  | zero => rfl
  | succ m ih => rw [aS_succ, List.length_append, ih]; simp; omega
def preS (m n : Nat) : List Int := [107, 101, 121, 61] ++ aS m ++ List.replicate n 98
theorem preS_len (m n : Nat) : (preS m n).length = 4 + 2 * m + n := by
  simp [preS, aS_len]
  omega
theorem notNl_of (l : List Int) (h : ∀ x ∈ l, x ≠ 10) : ∀ x ∈ l, notNl x = true := fun x hx => by simp [notNl, h x hx]
theorem aS_mem (m : Nat) : ∀ x ∈ aS m, x = 97 ∨ x = 44 := by
  induction m with
  | zero => simp [aS]
  | succ m ih =>
    intro x hx
    rw [aS_succ] at hx
    simp only [List.cons_append, List.nil_append, List.mem_cons] at hx
    rcases hx with h | h | h
    · exact .inl h
    · exact .inr h
    · exact ih x h
theorem preS_mem (m n : Nat) : ∀ x ∈ preS m n, x = 107 ∨ x = 101 ∨ x = 121 ∨ x = 61 ∨ x = 97 ∨ x = 44 ∨ x = 98 := by
  intro x hx
  unfold preS at hx
  simp only [List.mem_append, List.mem_cons, List.not_mem_nil, or_false, List.mem_replicate] at hx
  rcases hx with (h | h) | h
  · omega
  · rcases aS_mem m x h with h | h <;> omega
  · omega
/-- One line, and its line feed. -/
theorem lines_one (L : List Int) (hne : L ≠ []) (h10 : ∀ x ∈ L, x ≠ 10) (h13 : ∀ x ∈ L, x ≠ 13) : linesS 0 [] (L ++ [10]) = [⟨1, strOfNums L, 0⟩] := by
  rw [lines_tw]
  have hd : (L ++ [10]).dropWhile notNl = [10] := by
    rw [List.dropWhile_append_of_pos (notNl_of L h10)]
    rfl
  have ht : (L ++ [10]).takeWhile notNl = L := by
    rw [List.takeWhile_append_of_pos (notNl_of L h10)]
    show L ++ [] = L
    rw [List.append_nil]
  rw [hd, ht]
  simp only [List.nil_append]
  have htr : trim L = L := by
    unfold trim
    rw [if_neg]
    rintro ⟨_, h⟩
    have hp : 0 < L.length := List.length_pos_iff.mpr hne
    have e : ((L.length : Int) - 1) = ((L.length - 1 : Nat) : Int) := by omega
    rw [e] at h
    exact h13 _ (rd_mem L (L.length - 1) (by omega)) h
  rw [htr]
  rfl
/-- What is read of one line's bytes. -/
theorem Parse_one (L : List Int) (hL : L.length < 100000) (hne : L ≠ []) (hB : ∀ x ∈ L, 0 ≤ x ∧ x < 256) (h10 : ∀ x ∈ L, x ≠ 10) (h13 : ∀ x ∈ L, x ≠ 13) (h35 : rd L 0 ≠ 35) (r : ByteArray × (List S33) × Int × Int × Int)
    (hr : Ev (fun k => dnsl_row.f k 1 (strOfNums L) 0) r) : Ev (fun k => dnsl_Parse.f k (L ++ [10])) (if r.2.2.2.1 = 0 then ([(⟨r.1, r.2.1, r.2.2.1⟩ : S47)], 0, 0) else ([], r.2.2.2.1, r.2.2.2.2)) := by
  have hlen : (L ++ [10]).length = L.length + 1 := by simp
  have hBB : ∀ x ∈ L ++ [10], 0 ≤ x ∧ x < 256 := by
    intro x hx
    rcases List.mem_append.mp hx with hx | hx
    · exact hB x hx
    · rw [List.mem_singleton.mp hx]; decide
  have hlines := Lines_run (L ++ [10]) (by omega) hBB
  rw [lines_one L hne h10 h13] at hlines
  have hp : 0 < L.length := List.length_pos_iff.mpr hne
  have hsz : (strOfNums L).size = L.length := size_strOf L
  have hend : ∀ rows : List S47, Ev (fun k => dnsl_Parse.l0 k rows [(⟨1, strOfNums L, 0⟩ : S33)] 1 1) (rows, 0, 0) := by
    intro rows
    refine Ev.step (f := fun _ => some (rows, 0, 0)) (fun k => ?_) (Ev.now _)
    simp only [dnsl_Parse.l0]
    rw [if_neg (by decide)]
  have hj : Ev (fun k => dnsl_Parse.j1 k [] [(⟨1, strOfNums L, 0⟩ : S33)] 1 0 false 1 (strOfNums L) 0) (if r.2.2.2.1 = 0 then ([(⟨r.1, r.2.1, r.2.2.1⟩ : S47)], 0, 0) else ([], r.2.2.2.1, r.2.2.2.2)) := by
    by_cases h0 : r.2.2.2.1 = 0
    · rw [if_pos h0]
      refine Ev.step (f := fun k => (dnsl_row.f k 1 (strOfNums L) 0).bind fun bt150 => (if bt150.2.2.2.1 = 0 then (if ([] : List S47).length < 2932031007402 then (dnsl_Parse.l0 k (([] : List S47) ++ [(⟨bt150.1, bt150.2.1, bt150.2.2.1⟩ : S47)]) [(⟨1, strOfNums L, 0⟩ : S33)] 1 (wrap64 (0 + 1))) else (none)) else (some (([] : List (S47)), bt150.2.2.2.1, bt150.2.2.2.2)))) (fun k => ?_) (Ev.bind (g := fun k => dnsl_row.f k 1 (strOfNums L) 0) hr (Ev.congr (fun k => ?_) (hend [(⟨r.1, r.2.1, r.2.2.1⟩ : S47)])))
      · simp only [dnsl_Parse.j1]
        rw [if_neg (by simp)]
      · have e1 : wrap64 (0 + 1) = 1 := by unfold wrap64; omega
        rw [if_pos h0, if_pos (by simp), e1, List.nil_append]
    · rw [if_neg h0]
      refine Ev.step (f := fun k => (dnsl_row.f k 1 (strOfNums L) 0).bind fun bt150 => (if bt150.2.2.2.1 = 0 then (if ([] : List S47).length < 2932031007402 then (dnsl_Parse.l0 k (([] : List S47) ++ [(⟨bt150.1, bt150.2.1, bt150.2.2.1⟩ : S47)]) [(⟨1, strOfNums L, 0⟩ : S33)] 1 (wrap64 (0 + 1))) else (none)) else (some (([] : List (S47)), bt150.2.2.2.1, bt150.2.2.2.2)))) (fun k => ?_) (Ev.bind (g := fun k => dnsl_row.f k 1 (strOfNums L) 0) hr (Ev.congr (f := fun _ => some _) (fun k => ?_) (Ev.now _)))
      · simp only [dnsl_Parse.j1]
        rw [if_neg (by simp)]
      · rw [if_neg h0]
  have hl0 : Ev (fun k => dnsl_Parse.l0 k [] [(⟨1, strOfNums L, 0⟩ : S33)] 1 0) (if r.2.2.2.1 = 0 then ([(⟨r.1, r.2.1, r.2.2.1⟩ : S47)], 0, 0) else ([], r.2.2.2.1, r.2.2.2.2)) := by
    refine Ev.step (fun k => ?_) hj
    simp only [dnsl_Parse.l0]
    have et : rd_T33 [(⟨1, strOfNums L, 0⟩ : S33)] 0 = ⟨1, strOfNums L, 0⟩ := rfl
    have hbt : bt (strOfNums L) 0 = rd L 0 := by
      have := bt_rd (strOfNums L) 0
      rw [bytesOf_strOf L hB] at this
      exact this
    rw [if_pos (by decide), if_pos (by decide), if_pos (by simp), et]
    dsimp only
    have hnn : (strOfNums L).toList ≠ ([] : List UInt8) := by
      intro h
      rw [Go.Lib.strOfNums_toList] at h
      have := congrArg List.length h
      simp [Lib.bytesOf] at this
      exact hne this
    rw [if_neg hnn, if_pos (by rw [hsz]; omega), hbt]
    have : (rd L 0 == 35) = false := by simpa using h35
    rw [this]
  refine Ev.congr (f := fun k => (scan_Lines.f k (L ++ [10])).bind fun t145 => (dnsl_Parse.l0 k ([] : List (S47)) t145 (t145.length : Int) 0)) (fun k => ?_) (Ev.bind (g := fun k => scan_Lines.f k (L ++ [10])) hlines hl0)
  unfold dnsl_Parse.f scan_Long.f
  rw [if_neg (by omega), Option.bind_some]
  rfl
def toksA (n0 : Nat) : Nat → List S33
  | 0 => []
  | d + 1 => ⟨6, strOfNums [97], (n0 : Int)⟩ :: toksA (n0 + 2) d
theorem toksA_len (d n0 : Nat) : (toksA n0 d).length = d := by
  induction d generalizing n0 with
  | zero => rfl
  | succ d ih => simp [toksA, ih]
theorem loopA (s : ByteArray) (hs : s.size < 1000000) (R : List Int) (kd : Int) (tx kk : ByteArray) (at0 : Int) {r : ByteArray × (List S33) × Int × Int × Int} : ∀ (d n0 : Nat) (out : List S33), (bytesOf s).drop n0 = aS d ++ R → n0 ≤ s.size → out.length + d < 1000000 →
    Ev (fun k => dnsl_row.l0 k s ((n0 + 2 * d : Nat) : Int) kd tx 0 kk (out ++ toksA n0 d) at0) r → Ev (fun k => dnsl_row.l0 k s (n0 : Int) kd tx 0 kk out at0) r := by
  intro d
  induction d with
  | zero =>
    intro n0 out h hn ho K
    simpa [toksA] using K
  | succ d ih =>
    intro n0 out h hn ho K
    have hlb := len_bytes s
    have hd : (bytesOf s).drop n0 = [97] ++ 44 :: (aS d ++ R) := by
      rw [h, aS_succ]
      rfl
    have hdl := congrArg List.length hd
    simp only [List.length_drop, List.length_append, List.length_cons, List.length_nil] at hdl
    have hd2 : (bytesOf s).drop (n0 + 2) = aS d ++ R := by
      rw [← List.drop_drop, hd]
      rfl
    refine row_step s hs n0 [97] (aS d ++ R) kd tx kk out at0 hd hn (by simp [isP]) (by simp) (by omega) ?_
    have e : n0 + ([97] : List Int).length + 1 = n0 + 2 := rfl
    rw [e]
    refine ih (n0 + 2) _ hd2 (by omega) (by simp; omega) ?_
    have e2 : n0 + 2 + 2 * d = n0 + 2 * (d + 1) := by omega
    rw [e2, List.append_assoc]
    exact K
/-- The row of such a line, behind its key. -/
theorem row_run (m n : Nat) (hm : m < 8) (hn : n < 512) (tl : List Int) (htl : tl.length < 100) (hBt : ∀ x ∈ tl, 0 ≤ x ∧ x < 256) {r : ByteArray × (List S33) × Int × Int × Int}
    (K : ∀ s : ByteArray, s = strOfNums (preS m n ++ tl) → Ev (fun k => dnsl_row.l0 k s ((4 + 2 * m : Nat) : Int) 1 s 0 (s.extract 0 3) (toksA 4 m) 0) r) : Ev (fun k => dnsl_row.f k 1 (strOfNums (preS m n ++ tl)) 0) r := by
  generalize hs : strOfNums (preS m n ++ tl) = s
  have hB : ∀ x ∈ preS m n ++ tl, 0 ≤ x ∧ x < 256 := by
    intro x hx
    rcases List.mem_append.mp hx with hx | hx
    · have := preS_mem m n x hx
      omega
    · exact hBt x hx
  have hb : bytesOf s = preS m n ++ tl := by rw [← hs]; exact bytesOf_strOf _ hB
  have hsz : s.size = 4 + 2 * m + n + tl.length := by
    rw [← len_bytes, hb, List.length_append, preS_len]
  have hkey := key_run s (by omega) (bytesOf s) 0 rfl (by omega)
  have e3 : (0 + ((bytesOf s).takeWhile isK).length) = 3 := by
    rw [hb]
    simp [preS, List.takeWhile_cons, isK]
  rw [e3] at hkey
  have h61 : bt s ((3 : Nat) : Int) = 61 := by
    rw [bt_rd, hb]
    simp [rd, preS]
  have hj : Ev (fun k => dnsl_row.j0 k s ((3 : Nat) : Int) false 1 s 0) r := by
    refine Ev.step (f := fun k => dnsl_row.l0 k s ((4 : Nat) : Int) 1 s 0 (s.extract 0 3) [] 0) (fun k => ?_) ?_
    · simp only [dnsl_row.j0]
      have e4 : wrap64 (((3 : Nat) : Int) + 1) = ((4 : Nat) : Int) := by unfold wrap64; omega
      rw [if_neg (by simp), if_pos (by omega), if_pos (by omega), e4]
      rfl
    · refine loopA s (by omega) (List.replicate n 98 ++ tl) 1 s (s.extract 0 3) 0 m 4 [] ?_ (by omega) (by simp; omega) ?_
      · rw [hb]
        simp [preS]
      · rw [List.nil_append]
        exact K s hs.symm
  refine Ev.congr (f := fun k => (dnsl_key.f k s).bind fun t133 => (if t133 = 0 then (dnsl_row.j0 k s t133 true 1 s 0) else (if t133 = (s.size : Int) then (dnsl_row.j0 k s t133 true 1 s 0) else (if 0 ≤ t133 then (if t133 < (s.size : Int) then (dnsl_row.j0 k s t133 ((bt s t133) != 61) 1 s 0) else (none)) else (none))))) (fun k => ?_) (Ev.bind (g := fun k => dnsl_key.f k s) (a := ((3 : Nat) : Int)) ?_ (Ev.congr (fun k => ?_) hj))
  · rfl
  · exact hkey
  · rw [if_neg (by omega), if_neg (by omega), if_pos (by omega), if_pos (by omega), h61]
    rfl
theorem drop_pre (m n : Nat) (tl : List Int) : (preS m n ++ tl).drop (4 + 2 * m) = List.replicate n 98 ++ tl := by
  have e : preS m n ++ tl = ([107, 101, 121, 61] ++ aS m) ++ (List.replicate n 98 ++ tl) := by simp [preS]
  rw [e, List.drop_left' (by simp [aS_len]; omega)]
theorem rep_ok (n : Nat) : ∀ x ∈ List.replicate n (98 : Int), isP x = true := by
  intro x hx
  rw [(List.mem_replicate.mp hx).2]
  rfl
/-- A byte in it that can't stand there. -/
theorem row_wrong (m n : Nat) (hm : m < 8) (hn : n < 512) : Ev (fun k => dnsl_row.f k 1 (strOfNums (preS m n ++ [9, 44, 99])) 0) ((⟨#[]⟩ : ByteArray), ([] : List S33), 0, 1, ((4 + 2 * m + n : Nat) : Int)) := by
  refine row_run m n hm hn [9, 44, 99] (by simp) (by simp) (fun s hs => ?_)
  have hB : ∀ x ∈ preS m n ++ [9, 44, 99], 0 ≤ x ∧ x < 256 := by
    intro x hx
    rcases List.mem_append.mp hx with hx | hx
    · have := preS_mem m n x hx
      omega
    · simp at hx
      omega
  have hb : bytesOf s = preS m n ++ [9, 44, 99] := by rw [hs]; exact bytesOf_strOf _ hB
  have hsz : s.size = 4 + 2 * m + n + 3 := by rw [← len_bytes, hb, List.length_append, preS_len]; rfl
  have h := row_bad s (by omega) (4 + 2 * m) 1 s (s.extract 0 3) (toksA 4 m) 0 n false (by omega) (by omega) (by
    rw [hb, drop_pre, partS_ok _ _ 0 (rep_ok n)]
    simp [partS]) (by simp)
  exact h
theorem row_long (m n : Nat) (hm : m < 8) (hn : n < 512) (h255 : n > 255) : Ev (fun k => dnsl_row.f k 1 (strOfNums (preS m n ++ [44, 99])) 0) ((⟨#[]⟩ : ByteArray), ([] : List S33), 0, 2, ((4 + 2 * m : Nat) : Int)) := by
  refine row_run m n hm hn [44, 99] (by simp) (by simp) (fun s hs => ?_)
  have hB : ∀ x ∈ preS m n ++ [44, 99], 0 ≤ x ∧ x < 256 := by
    intro x hx
    rcases List.mem_append.mp hx with hx | hx
    · have := preS_mem m n x hx
      omega
    · simp at hx
      omega
  have hb : bytesOf s = preS m n ++ [44, 99] := by rw [hs]; exact bytesOf_strOf _ hB
  have hsz : s.size = 4 + 2 * m + n + 2 := by rw [← len_bytes, hb, List.length_append, preS_len]; rfl
  have h := row_bad s (by omega) (4 + 2 * m) 1 s (s.extract 0 3) (toksA 4 m) 0 n true (by omega) (by omega) (by
    rw [hb, drop_pre, partS_ok _ _ 0 (rep_ok n)]
    simp [partS]) (fun _ => h255)
  exact h
theorem row_good (m n : Nat) (hm : m < 8) (hn : n ≤ 255) : ∃ kk : ByteArray, Ev (fun k => dnsl_row.f k 1 (strOfNums (preS m n ++ [44, 99])) 0) (kk, toksA 4 m ++ [(⟨6, strOfNums (List.replicate n 98), ((4 + 2 * m : Nat) : Int)⟩ : S33)] ++ [(⟨6, strOfNums [99], ((4 + 2 * m + n + 1 : Nat) : Int)⟩ : S33)], 0, 0, 0) := by
  refine ⟨(strOfNums (preS m n ++ [44, 99])).extract 0 3, row_run m n hm (by omega) [44, 99] (by simp) (by simp) (fun s hs => ?_)⟩
  have hB : ∀ x ∈ preS m n ++ [44, 99], 0 ≤ x ∧ x < 256 := by
    intro x hx
    rcases List.mem_append.mp hx with hx | hx
    · have := preS_mem m n x hx
      omega
    · simp at hx
      omega
  have hb : bytesOf s = preS m n ++ [44, 99] := by rw [hs]; exact bytesOf_strOf _ hB
  have hsz : s.size = 4 + 2 * m + n + 2 := by rw [← len_bytes, hb, List.length_append, preS_len]; rfl
  have hd : (bytesOf s).drop (4 + 2 * m) = List.replicate n 98 ++ 44 :: [99] := by rw [hb, drop_pre]
  have hd2 : (bytesOf s).drop (4 + 2 * m + n + 1) = [99] := by
    have e : 4 + 2 * m + n + 1 = (4 + 2 * m) + (n + 1) := by omega
    rw [e, ← List.drop_drop, hd, List.drop_append]
    simp
  rw [← hs]
  refine row_step s (by omega) (4 + 2 * m) (List.replicate n 98) [99] 1 s (s.extract 0 3) (toksA 4 m) 0 hd (by omega) (rep_ok n) (by simpa using hn) (by rw [toksA_len]; omega) ?_
  rw [List.length_replicate]
  exact row_last s (by omega) (4 + 2 * m + n + 1) [99] 1 s (s.extract 0 3) _ 0 hd2 (by omega) (by simp [isP]) (by simp) (by simp [toksA_len]; omega)
theorem DnslLong : glebelaw10_DnslLong.Pure := by
  intro a0 a1 a2 h1 h2
  apply Ev.rounds
  have hfin : Ev (fun k => (glebelaw10_awake.f k).bind fun t => some t) true := Ev.bind (g := fun k => glebelaw10_awake.f k) awD (Ev.now _)
  obtain ⟨n, hn, hn5⟩ : ∃ n : Nat, Go.bits .and .i64 a0 511 = (n : Int) ∧ n < 512 := ⟨(a0 % 512).toNat, by rw [and511]; omega, by omega⟩
  obtain ⟨m, hm, hm8⟩ : ∃ m : Nat, Go.bits .and .i64 a1 7 = (m : Int) ∧ m < 8 := ⟨(a1 % 8).toNat, by rw [and7]; omega, by omega⟩
  have hpm : ∀ (tl : List Int), (∀ x ∈ tl, x = 9 ∨ x = 44 ∨ x = 99) → (∀ x ∈ preS m n ++ tl, 0 ≤ x ∧ x < 256) ∧ (∀ x ∈ preS m n ++ tl, x ≠ 10) ∧ (∀ x ∈ preS m n ++ tl, x ≠ 13) ∧ rd (preS m n ++ tl) 0 ≠ 35 ∧ preS m n ++ tl ≠ [] := by
    intro tl htl
    have key : ∀ x ∈ preS m n ++ tl, x = 107 ∨ x = 101 ∨ x = 121 ∨ x = 61 ∨ x = 97 ∨ x = 44 ∨ x = 98 ∨ x = 9 ∨ x = 99 := by
      intro x hx
      rcases List.mem_append.mp hx with hx | hx
      · have := preS_mem m n x hx
        omega
      · have := htl x hx
        omega
    refine ⟨fun x hx => ?_, fun x hx => ?_, fun x hx => ?_, ?_, ?_⟩
    · have := key x hx; omega
    · have := key x hx; omega
    · have := key x hx; omega
    · simp [rd, preS]
    · simp [preS]
  have hlast : ∀ x7 : ByteArray, bytesOf x7 = preS m n → Ev (fun k => glebelaw10_DnslLong.l1 k (n : Int) (m : Int) a2 x7 ((4 + 2 * m : Nat) : Int) (n : Int)) true := by
    intro x7 hx7
    have hsz : x7.size = 4 + 2 * m + n := by rw [← len_bytes, hx7, preS_len]
    cases a2 with
    | true =>
      obtain ⟨q1, q2, q3, q4, q5⟩ := hpm [9, 44, 99] (by simp)
      have hP := Parse_one (preS m n ++ [9, 44, 99]) (by rw [List.length_append, preS_len]; simp; omega) q5 q1 q2 q3 q4 _ (row_wrong m n hm8 hn5)
      rw [if_neg (by simp)] at hP
      have hbytes : bytesOf (x7 ++ (⟨#[9, 44, 99, 10]⟩ : ByteArray)) = (preS m n ++ [9, 44, 99]) ++ [10] := by
        rw [bytesOf_app, hx7, List.append_assoc]
        rfl
      refine Ev.step (f := fun k => (dnsl_Parse.f k ((preS m n ++ [9, 44, 99]) ++ [10])).bind fun bt237 => (if (bt237.2.1 == 1 && (bt237.2.2 == (wrap64 (((4 + 2 * m : Nat) : Int) + (n : Int))))) = true then ((glebelaw10_awake.f k).bind fun t243 => (some t243)) else (none))) (fun k => ?_) (Ev.bind (g := fun k => dnsl_Parse.f k ((preS m n ++ [9, 44, 99]) ++ [10])) hP (Ev.congr (fun k => ?_) hfin))
      · simp only [glebelaw10_DnslLong.l1]
        rw [if_neg (by omega), if_pos trivial, if_pos (by omega), hbytes]
      · rw [wrap_nn (4 + 2 * m) n (by omega), if_pos (by simp)]
    | false =>
      obtain ⟨q1, q2, q3, q4, q5⟩ := hpm [44, 99] (by simp)
      have hbytes : bytesOf (x7 ++ (⟨#[44, 99, 10]⟩ : ByteArray)) = (preS m n ++ [44, 99]) ++ [10] := by
        rw [bytesOf_app, hx7, List.append_assoc]
        rfl
      by_cases h255 : n > 255
      · have hP := Parse_one (preS m n ++ [44, 99]) (by rw [List.length_append, preS_len]; simp; omega) q5 q1 q2 q3 q4 _ (row_long m n hm8 hn5 h255)
        rw [if_neg (by simp)] at hP
        refine Ev.step (f := fun k => (dnsl_Parse.f k ((preS m n ++ [44, 99]) ++ [10])).bind fun bt247 => (if (bt247.2.1 == 2 && (bt247.2.2 == ((4 + 2 * m : Nat) : Int))) = true then (if (bt247.1.length : Int) = 0 then ((glebelaw10_awake.f k).bind fun t253 => (some t253)) else (none)) else (none))) (fun k => ?_) (Ev.bind (g := fun k => dnsl_Parse.f k ((preS m n ++ [44, 99]) ++ [10])) hP (Ev.congr (fun k => ?_) hfin))
        · simp only [glebelaw10_DnslLong.l1]
          rw [if_neg (by omega), if_neg (by simp), if_pos (by omega), hbytes]
          refine congrArg _ (funext fun bt => ?_)
          rw [if_pos (by omega)]
        · rw [if_pos (by simp), if_pos (by simp)]
      · obtain ⟨kk, hr⟩ := row_good m n hm8 (by omega)
        have hP := Parse_one (preS m n ++ [44, 99]) (by rw [List.length_append, preS_len]; simp; omega) q5 q1 q2 q3 q4 _ hr
        rw [if_pos rfl] at hP
        generalize hT : toksA 4 m ++ [(⟨6, strOfNums (List.replicate n 98), ((4 + 2 * m : Nat) : Int)⟩ : S33)] ++ [(⟨6, strOfNums [99], ((4 + 2 * m + n + 1 : Nat) : Int)⟩ : S33)] = T at hP
        have hTl : T.length = m + 2 := by rw [← hT]; simp [toksA_len]
        have hTm : rd_T33 T (m : Int) = ⟨6, strOfNums (List.replicate n 98), ((4 + 2 * m : Nat) : Int)⟩ := by
          rw [← hT]
          simp [rd_T33, List.getD_eq_getElem?_getD, List.append_assoc, List.getElem?_append_right, toksA_len]
        refine Ev.step (f := fun k => (dnsl_Parse.f k ((preS m n ++ [44, 99]) ++ [10])).bind fun bt247 => (if (bt247.2.1 == 0 && (bt247.2.2 == 0)) = true then (if (bt247.1.length : Int) = 1 then (if 0 < (bt247.1.length : Int) then (if (((rd_T47 bt247.1 0).f1).length : Int) = (wrap64 ((m : Int) + 2)) then (if 0 ≤ (m : Int) then (if (m : Int) < (((rd_T47 bt247.1 0).f1).length : Int) then (if ((rd_T33 ((rd_T47 bt247.1 0).f1) (m : Int)).f2) = ((4 + 2 * m : Nat) : Int) then (if (((rd_T33 ((rd_T47 bt247.1 0).f1) (m : Int)).f1).size : Int) = (n : Int) then ((glebelaw10_awake.f k).bind fun t259 => (some t259)) else (none)) else (none)) else (none)) else (none)) else (none)) else (none)) else (none)) else (none))) (fun k => ?_) (Ev.bind (g := fun k => dnsl_Parse.f k ((preS m n ++ [44, 99]) ++ [10])) hP (Ev.congr (fun k => ?_) hfin))
        · simp only [glebelaw10_DnslLong.l1]
          rw [if_neg (by omega), if_neg (by simp), if_pos (by omega), hbytes]
          refine congrArg _ (funext fun bt => ?_)
          rw [if_neg (by omega)]
        · have e47 : rd_T47 [(⟨kk, T, 0⟩ : S47)] 0 = ⟨kk, T, 0⟩ := rfl
          have em : wrap64 ((m : Int) + 2) = ((m + 2 : Nat) : Int) := by unfold wrap64; omega
          rw [if_pos (by simp), if_pos (by simp), if_pos (by simp), e47]
          dsimp only
          rw [hTl, em, if_pos rfl, if_pos (by omega), if_pos (by omega), hTm]
          dsimp only
          rw [if_pos rfl, size_strOf, List.length_replicate, if_pos rfl]
  have hB : ∀ (d j : Nat) (x7 : ByteArray), j + d = n → bytesOf x7 = preS m j → Ev (fun k => glebelaw10_DnslLong.l1 k (n : Int) (m : Int) a2 x7 ((4 + 2 * m : Nat) : Int) (j : Int)) true := by
    intro d
    induction d with
    | zero =>
      intro j x7 hj hx
      obtain rfl : j = n := by omega
      exact hlast x7 hx
    | succ d ih =>
      intro j x7 hj hx
      have hsz : x7.size = 4 + 2 * m + j := by rw [← len_bytes, hx, preS_len]
      refine Ev.step (f := fun k => glebelaw10_DnslLong.l1 k (n : Int) (m : Int) a2 (x7 ++ (⟨#[98]⟩ : ByteArray)) ((4 + 2 * m : Nat) : Int) ((j + 1 : Nat) : Int)) (fun k => ?_) (ih (j + 1) _ (by omega) ?_)
      · simp only [glebelaw10_DnslLong.l1]
        rw [if_pos (by omega), if_pos (by omega), wrap_n1 j (by omega)]
      · rw [bytesOf_app, hx]
        simp only [preS, List.replicate_succ', List.append_assoc]
        rfl
  have hA : ∀ (d i : Nat) (x7 : ByteArray), i + d = m → bytesOf x7 = [107, 101, 121, 61] ++ aS i → Ev (fun k => glebelaw10_DnslLong.l0 k (n : Int) (m : Int) a2 x7 (i : Int)) true := by
    intro d
    induction d with
    | zero =>
      intro i x7 hi hx
      obtain rfl : i = m := by omega
      have hsz : x7.size = 4 + 2 * i := by
        rw [← len_bytes, hx, List.length_append, aS_len]
        rfl
      refine Ev.step (f := fun k => glebelaw10_DnslLong.l1 k (n : Int) (i : Int) a2 x7 ((4 + 2 * i : Nat) : Int) ((0 : Nat) : Int)) (fun k => ?_) (hB n 0 x7 (by omega) (by rw [hx]; simp [preS]))
      simp only [glebelaw10_DnslLong.l0]
      rw [if_neg (by omega), hsz]
      rfl
    | succ d ih =>
      intro i x7 hi hx
      have hsz : x7.size = 4 + 2 * i := by
        rw [← len_bytes, hx, List.length_append, aS_len]
        rfl
      refine Ev.step (f := fun k => glebelaw10_DnslLong.l0 k (n : Int) (m : Int) a2 (x7 ++ (⟨#[97, 44]⟩ : ByteArray)) ((i + 1 : Nat) : Int)) (fun k => ?_) (ih (i + 1) _ (by omega) ?_)
      · simp only [glebelaw10_DnslLong.l0]
        rw [if_pos (by omega), if_pos (by omega), wrap_n1 i (by omega)]
      · rw [bytesOf_app, hx, aS_succ']
        simp only [List.append_assoc]
        rfl
  refine Ev.congr (fun k => ?_) (hA m 0 (⟨#[107, 101, 121, 61]⟩ : ByteArray) (by omega) rfl)
  unfold glebelaw10_DnslLong.f
  rw [hn, hm]
  rfl
end Go.Proofs.Ytnkcffmklomfhaa.Pure
