/- The quick machine: what it says, the machine says. -/
import Derived.Test.YtcccapeaeehjiaaGreatDoorAMu
namespace Go.Proofs.YtcccapeaeehjiaaGreatDoor.AM
noncomputable section
open Go Go.RowKit
set_option linter.unusedVariables false
set_option linter.unusedSimpArgs false
theorem aop_of {C : Ctx} {ρ : Operand → Option Value} {nx : Nat} {h : Tr AObj} {o : Oper} {r : Value × Nat × Tr AObj} (e : aopV C.P ρ nx h o = some r) : aop C ρ nx h o = some r := by
  unfold aop
  split
  · rename_i c hc
    split
    · rename_i f hf
      unfold aopV at e
      rw [hc] at e
      simp only [hf] at e
      cases e
    · unfold aopX; rw [e]
  · unfold orTok aopX; rw [e]
theorem keep_some {nx : Nat} {h : Tr AObj} {v : Option Value} {r : Value × Nat × Tr AObj} (e : keep nx h v = some r) : ∃ u, v = some u ∧ r = (u, nx, h) := by
  obtain ⟨u, h1, h2⟩ := ob_some e
  injection h2 with h2
  exact ⟨u, h1, h2.symm⟩
theorem xvals_ok {gl : Gv} {g : CO → Option Value} {ρ : Operand → Option Value} (hg : ∀ x, g (CO.of gl x) = ρ x) : ∀ {l : List Operand} {vs : List Value}, xvals g (l.map (CO.of gl)) = some vs → avals ρ l = some vs
  | [], vs, e => e
  | x :: l, vs, e => by
    obtain ⟨v, h1, e⟩ := ob_some (show ob (g (CO.of gl x)) (fun v => ob (xvals g (l.map (CO.of gl))) fun r => some (v :: r)) = some vs from e)
    obtain ⟨r, h2, h3⟩ := ob_some e
    unfold avals
    rw [← hg x, h1, Option.bind_some, xvals_ok hg h2]
    exact h3
theorem aopV_call {P : Program} {ρ : Operand → Option Value} {nx : Nat} {h : Tr AObj} {o : Oper} {c : Call} (ho : o.op = .call c) {x : Operand} {t : Nat} (hc : c.callee = .builtin .len) (hx : c.args.toList = [x]) (ht : c.argTypes.toList = [t]) : aopV P ρ nx h o = (match ρ x with
        | some (.slice a n q) => keepR nx h (alen P t (.slice a n q))
        | _ => keepR nx h (apure P ρ o)) := by
  unfold aopV
  rw [ho]
  simp only [hc, hx, ht]
  rfl
theorem pureRun_bind {α β : Type} {P : Program} (s : Sem α) (k : α → Sem β) : pureRun P (s >>= k) = (pureRun P s).bind fun a => pureRun P (k a) := by
  show pureRun P (Sem.bind s k) = _
  induction s with
  | pure a => rfl
  | program f ih => exact ih P
  | mark m f ih => exact ih
  | load => rfl
  | store => rfl
  | new => rfl
  | shape => rfl
  | freeze => rfl
  | frozen => rfl
  | getObj => rfl
  | setObj => rfl
  | choose => rfl
  | sys => rfl
  | halt => rfl
theorem pureRun_pure {α : Type} {P : Program} (a : α) : pureRun P (pure a : Sem α) = some a := rfl
theorem pureRun_underlying {P : Program} {t : Nat} {d : TypeDesc} (h : P.underlying t = some d) : pureRun P (underlying t) = some d := by
  unfold underlying
  rw [pureRun_bind]
  show pureRun P (match P.underlying t with | some d => pure d | none => stuck "no such type") = _
  rw [h]; rfl
theorem apure_len {P : Program} {ρ : Operand → Option Value} {o : Oper} {c : Call} (ho : o.op = .call c) {x : Operand} {t : Nat} (hc : c.callee = .builtin .len) (hx : c.args.toList = [x]) (ht : c.argTypes.toList = [t]) (hu : P.underlying t = some .string) {s : ByteArray} (hs : ρ x = some (.string s)) : apure P ρ o = some (.int .i64 s.size) := by
  have hx' : c.args = #[x] := Array.ext' hx
  have ht' : c.argTypes = #[t] := Array.ext' ht
  have hrun : pureRun P (execOp (fun x => (ρ x).getD undef) o) = some (.value (.int .i64 s.size)) := by
    unfold execOp
    rw [ho]
    simp only [resolve, hc, hx', ht', invoke, builtin, Builtin.len_, List.map_toArray, List.map_cons, List.map_nil, hs, Option.getD_some, pureRun_bind, pureRun_pure, Option.bind_some]
    show (pureRun P (underlying t >>= _)).bind _ = _
    rw [pureRun_bind, pureRun_underlying hu]
    rfl
  unfold apure
  rw [hrun]
  simp only [isSel, ho, Op.operands, Call.operands, hc, hx']
  simp [hs, flatV, flat1, flatC]
theorem isStrT_ok {P : Program} {t : Nat} (h : isStrT P t = true) : P.underlying t = some .string := by
  unfold isStrT at h
  split at h
  · assumption
  · cases h
theorem isSlcT_ok {P : Program} {t : Nat} (h : isSlcT P t = true) : ∃ e, P.underlying t = some (.slice e) := by
  unfold isSlcT at h
  split at h
  · exact ⟨_, by assumption⟩
  · cases h
theorem pureRun_index {P : Program} {t : Nat} (hu : P.underlying t = some .string) {s : ByteArray} {k : IntKind} {n : Nat} {b : UInt8} (hb : s.data.toList[n]? = some b) : pureRun P (Instr.index t (.string s) (.int k n)) = some (.int .u8 b.toNat) := by
  unfold Instr.index
  rw [pureRun_bind]
  show (pureRun P (underlying t >>= _)) = _
  rw [pureRun_bind, pureRun_underlying hu]
  have h1 : (if 0 ≤ (n : Int) then s[(n : Int).toNat]? else none) = some b := by
    rw [if_pos (by omega), Int.toNat_natCast]
    have hlt : n < s.data.toList.length := (List.getElem?_eq_some_iff.1 hb).1
    have hlt' : n < s.size := by simpa using hlt
    rw [getElem?_pos s n hlt']
    have := (List.getElem?_eq_some_iff.1 hb).2
    rw [← this]
    rfl
  show pureRun P (match (if 0 ≤ (n : Int) then s[(n : Int).toNat]? else none) with | some b => pure (Value.int IntKind.u8 b.toNat) | none => boundsPanic k n s.size .index) = _
  rw [h1]
  rfl
theorem apure_of {P : Program} {ρ : Operand → Option Value} {o : Oper} {r : Value} (hs : isSel o.op = false) (ha : ∀ x ∈ o.op.operands, ∃ v, ρ x = some v ∧ flatV v = true) (hrun : pureRun P (execOp (fun x => (ρ x).getD undef) o) = some (.value r)) (fr : flatV r = true) : apure P ρ o = some r := by
  unfold apure
  rw [if_pos, hrun]
  · simp only [fr, if_true]
  · rw [hs]
    simp only [Bool.not_false, Bool.true_and]
    rw [Array.all_eq_true']
    intro x hx
    obtain ⟨v, h1, h2⟩ := ha x hx
    rw [h1]
    exact h2
theorem apure_2 {P : Program} {ρ : Operand → Option Value} {o : Oper} {c : Call} (ho : o.op = .call c) {x y : Operand} {b : Builtin} (hc : c.callee = .builtin b) (hx : c.args.toList = [x, y]) {u v r : Value} (hu : ρ x = some u) (hv : ρ y = some v) (fu : flatV u = true) (fv : flatV v = true) (fr : flatV r = true)
    (hb : ∀ (at_ : Array TypeId) (ty : TypeId) (cs : Array Bool), pureRun P (builtin b at_ ty cs #[u, v]) = some (.value r)) : apure P ρ o = some r := by
  have hx' : c.args = #[x, y] := Array.ext' hx
  have hrun : pureRun P (execOp (fun x => (ρ x).getD undef) o) = some (.value r) := by
    unfold execOp
    rw [ho]
    simp only [resolve, hc, hx', invoke, List.map_toArray, List.map_cons, List.map_nil, hu, hv, Option.getD_some, pureRun_bind, pureRun_pure, Option.bind_some]
    exact hb _ _ _
  unfold apure
  rw [hrun]
  simp only [isSel, ho, Op.operands, Call.operands, hc, hx']
  simp [hu, hv, fu, fv, fr]
theorem aopV_mm {P : Program} {ρ : Operand → Option Value} {nx : Nat} {h : Tr AObj} {o : Oper} {c : Call} (ho : o.op = .call c) {b : Builtin} (hc : c.callee = .builtin b) (hb : b = .min ∨ b = .max) : aopV P ρ nx h o = keepR nx h (apure P ρ o) := by
  unfold aopV
  rw [ho]
  rcases hb with rfl | rfl <;> simp only [hc]
theorem bndO_ok {gl : Gv} {g : CO → Option Value} {ρ : Operand → Option Value} (hg : ∀ x, g (CO.of gl x) = ρ x) {x : Option Operand} {d l : Nat} (e : bndO g (x.map (CO.of gl)) d = some l) : bnd (x.bind ρ) d = some l ∧ x.all (fun x => (ρ x).isSome) = true ∧ ((x = none ∧ l = d) ∨ ∃ y k, x = some y ∧ ρ y = some (.int k (l : Int))) := by
  cases x with
  | none =>
    injection e with e
    subst e
    exact ⟨rfl, rfl, .inl ⟨rfl, rfl⟩⟩
  | some x =>
    obtain ⟨v, h1, e⟩ := ob_some (show ob (g (CO.of gl x)) (fun v => onInt v fun _ i => gd (nonneg i) (some (natOf i))) = some l from e)
    replace e := onInt_some e
    obtain ⟨k, i, rfl, e⟩ := e
    replace e := gd_some e
    obtain ⟨h2, e⟩ := e
    injection e with e
    subst e
    rw [hg] at h1
    have hi := nonneg_ok h2
    refine ⟨?_, by simp [h1], .inr ⟨x, k, rfl, by rw [← hi]; exact h1⟩⟩
    unfold bnd
    simp only [Option.bind_some, h1]
    rw [if_pos (by omega)]
    congr 1
    omega
theorem pureRun_sliceBound {P : Program} {k : IntKind} {i y : Nat} {code : BoundsCode} (h : i ≤ y) : pureRun P (Instr.sliceBound (.int k (i : Int)) y code) = some i := by
  unfold Instr.sliceBound
  rw [pureRun_bind]
  show pureRun P (if 0 ≤ (i : Int) ∧ (i : Int) ≤ y then pure (i : Int).toNat else boundsPanic k i y code) = _
  rw [if_pos (by omega)]
  simp [pureRun_pure]
theorem pureRun_cut {P : Program} {t : Nat} (hu : P.underlying t = some .string) {s : ByteArray} {lo hi : Option Value} {l q : Nat} (hl : (lo = none ∧ l = 0) ∨ ∃ k, lo = some (.int k (l : Int))) (hq : (hi = none ∧ q = s.size) ∨ ∃ k, hi = some (.int k (q : Int))) (h1 : l ≤ q) (h2 : q ≤ s.size) : pureRun P (Instr.slice t (.string s) lo hi none) = some (.string (s.extract l q)) := by
  have hb : pureRun P (Instr.sliceBounds false s.size s.size lo hi none) = some (l, q, s.size) := by
    unfold Instr.sliceBounds
    simp only [pureRun_bind, pureRun_pure, Option.bind_some]
    rcases hq with ⟨rfl, rfl⟩ | ⟨k, rfl⟩
    · rcases hl with ⟨rfl, rfl⟩ | ⟨k, rfl⟩
      · simp only [pureRun_bind, pureRun_pure, Option.bind_some]
      · simp only [pureRun_bind, pureRun_pure, Option.bind_some, Option.isSome_none, Bool.false_eq_true, if_false, pureRun_sliceBound h1]
    · rcases hl with ⟨rfl, rfl⟩ | ⟨k2, rfl⟩
      · simp only [pureRun_bind, pureRun_pure, Option.bind_some, Bool.false_eq_true, if_false, pureRun_sliceBound h2]
      · simp only [pureRun_bind, pureRun_pure, Option.bind_some, Option.isSome_none, Bool.false_eq_true, if_false, pureRun_sliceBound h1, pureRun_sliceBound h2]
  unfold Instr.slice
  rw [pureRun_bind, pureRun_underlying hu]
  show pureRun P (do
    let (l, h, _) ← Instr.sliceBounds false s.size s.size lo hi none
    pure (Value.string (s.extract l h))) = _
  rw [pureRun_bind, hb]
  rfl
theorem bcells_eq (s : ByteArray) : bcells s.data.toList = byteCells s := by
  unfold byteCells
  generalize s.data.toList = l
  induction l with
  | nil => rfl
  | cons b l ih =>
    show Value.int .u8 (Int.ofNat b.toNat) :: bcells l = _
    rw [ih]; rfl
theorem elemOf_ok {P : Program} {t e es bytes : Nat} (h : elemOf P t = some (e, es, bytes)) : ∃ i z, P.underlying t = some (.slice e) ∧ P.info? e = some i ∧ i.zero = some z ∧ (z.cells.size = i.size ∧ 0 < i.size ∧ i.size ≤ 1000000) ∧ i.size = es ∧ i.bytes = bytes := by
  unfold elemOf at h
  split at h
  · rename_i e' hu
    split at h
    · rename_i i hi
      split at h
      · rename_i z hz
        split at h
        · rename_i hc
          simp only [Option.some.injEq, Prod.mk.injEq] at h
          obtain ⟨rfl, rfl, rfl⟩ := h
          exact ⟨i, z, hu, hi, hz, hc, rfl, rfl⟩
        · cases h
      · cases h
    · cases h
  · cases h
theorem appTo_ok {P : Program} {g : CO → Option Value} {nx : Nat} {h : Tr AObj} {t u e es bytes k : Nat} {x : CO} {sv yv : Value} {vs : List Value} {r : Value × Nat × Tr AObj} (he : elemOf P t = some (e, es, bytes)) (hx : g x = some sv) (hs : asrc P h u es yv = some (k, vs)) (h0 : appTo g nx h e es bytes x k vs = some r) : aappend P nx h t u sv yv = some r := by
  obtain ⟨i, z, k1, k2, k3, k4, rfl, rfl⟩ := elemOf_ok he
  unfold aappend
  simp only [k1, k2, k3, Option.bind_some, if_pos k4, hs]
  obtain ⟨c1, h0⟩ := gd_some h0
  rw [nble, decide_eq_true_eq] at c1
  rw [if_neg (by omega)]
  obtain ⟨u, h1, h0⟩ := ob_some h0
  rw [hx] at h1
  injection h1 with h1
  subst h1
  replace h0 := onSlc_some h0
  obtain ⟨a, n, c, rfl, h0⟩ := h0
  cases a with
  | none =>
    replace h0 := gd_some (show gd (Nat.beq n 0) (gd (Nat.beq c 0) (app0 nx h e i.size i.bytes k vs)) = some r from h0)
    obtain ⟨d1, h0⟩ := h0
    replace h0 := gd_some h0
    obtain ⟨d2, h0⟩ := h0
    rw [nbeq, decide_eq_true_eq] at d1 d2
    replace h0 := gd_some h0
    obtain ⟨d3, h0⟩ := h0
    replace h0 := gd_some h0
    obtain ⟨d4, h0⟩ := h0
    rw [nble, decide_eq_true_eq] at d3 d4
    subst d1; subst d2
    simp only
    rw [if_pos ⟨d3, d4⟩]
    exact h0
  | some a =>
    replace h0 := gd_some (show gd (Nat.beq c 1) (app1 nx h e i.size i.bytes k vs a n) = some r from h0)
    obtain ⟨d1, h0⟩ := h0
    rw [nbeq, decide_eq_true_eq] at d1
    subst d1
    obtain ⟨o, d2, h0⟩ := ob_some h0
    replace h0 := gd_some h0
    obtain ⟨d3, h0⟩ := h0
    replace h0 := gd_some h0
    obtain ⟨d4, h0⟩ := h0
    replace h0 := gd_some h0
    obtain ⟨d5, h0⟩ := h0
    replace h0 := gd_some h0
    obtain ⟨d6, h0⟩ := h0
    replace h0 := gd_some h0
    obtain ⟨d7, h0⟩ := h0
    replace h0 := gd_some h0
    obtain ⟨d8, h0⟩ := h0
    replace h0 := gd_some h0
    obtain ⟨d9, h0⟩ := h0
    rw [nbeq, decide_eq_true_eq] at d3 d5 d6 d7
    rw [nble, decide_eq_true_eq] at d8 d9
    rw [llen_eq] at d7
    simp only [d2, Option.bind_some]
    rw [if_pos ⟨d3, d4, d5, d6, d7, d8, d9⟩]
    rw [app_eq] at h0
    exact h0
theorem aopV_append {P : Program} {ρ : Operand → Option Value} {nx : Nat} {h : Tr AObj} {o : Oper} {c : Call} (ho : o.op = .call c) {x y : Operand} {t u : Nat} (hc : c.callee = .builtin .append) (hx : c.args.toList = [x, y]) (ht : c.argTypes.toList = [t, u]) {sv yv : Value} (h1 : ρ x = some sv) (h2 : ρ y = some yv) : aopV P ρ nx h o = aappend P nx h t u sv yv := by
  unfold aopV
  rw [ho]
  simp only [hc, hx, ht, h1, h2, Option.bind_some]
theorem slcR_eq (a : Addr) (n sz l q : Nat) (x : Value) : slcR a n sz l q x = if l = 0 ∧ q = n then x else if l = q then .slice (some a) 0 0 else .slice (some ⟨a.block, a.off + l * sz, none⟩) (q - l) 1 := by
  unfold slcR
  simp only [sel_eq, nbeq, decide_eq_true_eq]
  by_cases h1 : l = 0
  · by_cases h2 : q = n
    · simp [h1, h2]
    · simp only [h1, h2, if_true, if_false, and_false, decide_false, Bool.false_eq_true]
      rfl
  · simp only [h1, if_false, false_and, Bool.false_eq_true]
    rfl
theorem xop_ok {C : Ctx} {g : CO → Option Value} {ρ : Operand → Option Value} (hg : ∀ x, g (CO.of C.gl x) = ρ x) {nx : Nat} {h : Tr AObj} {o : Oper} {r : Value × Nat × Tr AObj} (e : xop C.P C.call g nx h (comp C.P C.gl o) = some r) : aop C ρ nx h o = some r := by
  unfold comp at e
  split at e
  case h_1 x ho =>
    obtain ⟨u, h1, rfl⟩ := keep_some (show keep nx h (g (CO.of C.gl x)) = some r from e)
    refine aop_of ?_
    unfold aopV keepR
    rw [ho]
    simp only [← hg, h1, Option.bind_some]
  case h_2 x ho =>
    obtain ⟨u, h1, rfl⟩ := keep_some (show keep nx h (g (CO.of C.gl x)) = some r from e)
    refine aop_of ?_
    unfold aopV keepR
    rw [ho]
    simp only [← hg, h1, Option.bind_some]
  case h_3 c a b ho =>
    replace e := ob_some (show ob (g (CO.of C.gl c)) (fun c => onBool c fun c => keep nx h (sel c (g (CO.of C.gl a)) (g (CO.of C.gl b)))) = some r from e)
    obtain ⟨u, h1, e⟩ := e
    replace e := onBool_some e
    obtain ⟨t, rfl, e⟩ := e
    obtain ⟨v, h2, rfl⟩ := keep_some e
    rw [sel_eq] at h2
    refine aop_of ?_
    unfold aopV keepR
    rw [ho]
    simp only [← hg, h1]
    cases t <;> simp_all
  case h_4 op t x y yt ho =>
    replace e := ob_some (show ob (g (CO.of C.gl x)) (fun u => ob (g (CO.of C.gl y)) fun v => keep nx h (binV op u v)) = some r from e)
    obtain ⟨u, h1, e⟩ := e
    replace e := ob_some e
    obtain ⟨v, h2, e⟩ := e
    obtain ⟨w, h3, rfl⟩ := keep_some e
    refine aop_of ?_
    unfold aopV
    rw [ho]
    simp only [← hg, h1, h2, binV_ok h3]
  case h_5 s d x ho =>
    split at e
    · rename_i td k hs hd
      replace e := ob_some (show ob (g (CO.of C.gl x)) (fun u => onInt u fun _ n => some (.int k (wrapF k n), nx, h)) = some r from e)
      obtain ⟨u, h1, e⟩ := e
      replace e := onInt_some e
      obtain ⟨k', n, rfl, e⟩ := e
      injection e with e
      subst e
      refine aop_of ?_
      unfold aopV
      rw [ho]
      simp only [← hg, h1, hs, hd, wrapF_eq]
    · cases e
  case h_6 s x f ho =>
    split at e
    · rename_i off n b hf
      obtain ⟨fields, fl, k1, k2, k3, k4, k5⟩ := fieldOf_ok hf
      replace e := ob_some (show ob (g (CO.of C.gl x)) (fun u => onPtr u fun a => some (.pointer (some ⟨a.block, Nat.add a.off off, none⟩), nx, h)) = some r from e)
      obtain ⟨u, h1, e⟩ := e
      replace e := onPtr_some e
      obtain ⟨a, rfl, e⟩ := e
      injection e with e
      subst e
      refine aop_of ?_
      unfold aopV keepR afieldAddr
      rw [ho]
      simp only [← hg, h1, k1, k2, k4, k3, Option.bind_some]
      rfl
    · cases e
  case h_7 s x f ho =>
    split at e
    · rename_i off n hf
      obtain ⟨fields, fl, k1, k2, k3, k4, k5⟩ := fieldOf_ok hf
      replace e := ob_some (show ob (g (CO.of C.gl x)) (fun u => onAgg u fun l => ob (ltakeE (n + 1) (ldrop off l)) fun vs => some (.agg ⟨vs⟩, nx, h)) = some r from e)
      obtain ⟨u, h1, e⟩ := e
      replace e := onAgg_some e
      obtain ⟨cs, rfl, e⟩ := e
      replace e := ob_some e
      obtain ⟨vs, h2, e⟩ := e
      injection e with e
      subst e
      obtain ⟨q1, q2⟩ := ltakeE_ok _ _ _ h2
      rw [ldrop_eq] at q1 q2
      refine aop_of ?_
      unfold aopV keepR afield
      rw [ho]
      simp only [← hg, h1, k1, k2, k4, k3, k5, Option.bind_some, if_true]
      rw [List.length_drop, Array.length_toList] at q2
      rw [if_pos (by omega), Option.bind_some]
      have : cs.extract off (off + (n + 1)) = ⟨vs⟩ := by
        apply Array.ext'
        rw [q1, Array.toList_extract, List.extract_eq_take_drop, Nat.add_sub_cancel_left]
      rw [this]
    · rename_i off n hf
      obtain ⟨fields, fl, k1, k2, k3, k4, k5⟩ := fieldOf_ok hf
      replace e := ob_some (show ob (g (CO.of C.gl x)) (fun u => onAgg u fun l => keep nx h (lhead (ldrop off l))) = some r from e)
      obtain ⟨u, h1, e⟩ := e
      replace e := onAgg_some e
      obtain ⟨cs, rfl, e⟩ := e
      obtain ⟨v, h2, rfl⟩ := keep_some e
      rw [lhead_eq, Array.getElem?_toList] at h2
      refine aop_of ?_
      unfold aopV keepR afield
      rw [ho]
      simp only [← hg, h1, k1, k2, k3, k5, Option.bind_some, Bool.false_eq_true, if_false, h2]
    · cases e
  case h_8 t a ho =>
    split at e
    · rename_i ht
      split at e
      · rename_i n hn
        replace e := ob_some (show ob (g (CO.of C.gl a)) (fun u => onPtr u fun a => ob (h.get a.block) fun o => ob (ltakeE n (ldrop a.off o.cells)) fun vs => some (.agg ⟨vs⟩, nx, h)) = some r from e)
        obtain ⟨u, h1, e⟩ := e
        replace e := onPtr_some e
        obtain ⟨ad, rfl, e⟩ := e
        replace e := ob_some e
        obtain ⟨ob, h2, e⟩ := e
        replace e := ob_some e
        obtain ⟨vs, h3, e⟩ := e
        injection e with e
        subst e
        rw [ldrop_eq] at h3
        refine aop_of ?_
        unfold aopV keepR aload
        rw [ho]
        simp only [← hg, h1, ht, hn, Option.bind_some, if_true, ltakeE_agets h2 _ _ _ h3, Option.map_some]
      · cases e
    · rename_i ht
      replace e := ob_some (show ob (g (CO.of C.gl a)) (fun u => onPtr u fun a => ob (h.get a.block) fun o => keep nx h (lhead (ldrop a.off o.cells))) = some r from e)
      obtain ⟨u, h1, e⟩ := e
      replace e := onPtr_some e
      obtain ⟨ad, rfl, e⟩ := e
      replace e := ob_some e
      obtain ⟨ob, h2, e⟩ := e
      obtain ⟨v, h3, rfl⟩ := keep_some e
      rw [lhead_eq] at h3
      refine aop_of ?_
      unfold aopV keepR aload aget
      rw [ho]
      simp only [← hg, h1, ht, h2, h3, Option.bind_some, Bool.false_eq_true, if_false]
    · cases e
  case h_9 t a x ho =>
    split at e
    · rename_i n hn
      replace e := ob_some (show ob (g (CO.of C.gl a)) (fun u => onPtr u fun a => ob (g (CO.of C.gl x)) fun v => ob (cellsL v) fun vs => gd (Nat.beq n (llen vs)) (ob (h.get a.block) fun o => gd o.own (ob (lputF vs a.off o.cells) fun cs => some (undef, nx, h.set a.block (some ⟨cs, o.elem, true, o.es⟩))))) = some r from e)
      obtain ⟨u, h1, e⟩ := e
      replace e := onPtr_some e
      obtain ⟨ad, rfl, e⟩ := e
      replace e := ob_some e
      obtain ⟨v, h2, e⟩ := e
      replace e := ob_some e
      obtain ⟨vs, h3, e⟩ := e
      replace e := gd_some e
      obtain ⟨h4, e⟩ := e
      replace e := ob_some e
      obtain ⟨ob, h5, e⟩ := e
      replace e := gd_some e
      obtain ⟨h6, e⟩ := e
      replace e := ob_some e
      obtain ⟨cs, h7, e⟩ := e
      injection e with e
      subst e
      obtain ⟨c1, c2⟩ := cellsL_ok h3
      obtain ⟨p1, p2⟩ := lputF_ok _ _ _ _ h7
      rw [nbeq, llen_eq, decide_eq_true_eq] at h4
      have hsz : v.cells.size = n := by rw [h4, ← c1, Array.length_toList]
      refine aop_of ?_
      unfold aopV astore aput
      rw [ho]
      simp only [← hg, h1, h2, c2, hn, hsz, h5, h6, c1, Option.bind_some, beq_self_eq_true, Bool.and_self, if_true, Bool.true_and, decide_eq_true p1]
      rw [p2]
    · cases e
  case h_10 x ho =>
    replace e := ob_some (show ob (g (CO.of C.gl x)) (fun u => onPtr u fun a => some (.pointer (some a), nx, h)) = some r from e)
    obtain ⟨u, h1, e⟩ := e
    replace e := onPtr_some e
    obtain ⟨ad, rfl, e⟩ := e
    injection e with e
    subst e
    refine aop_of ?_
    unfold aopV
    rw [ho]
    simp only [← hg, h1]
  case h_11 x i ho =>
    replace e := ob_some (show ob (g (CO.of C.gl x)) (fun u => onTup u fun vs => keep nx h (lhead (ldrop i vs.toList))) = some r from e)
    obtain ⟨u, h1, e⟩ := e
    replace e := onTup_some e
    obtain ⟨vs, rfl, e⟩ := e
    obtain ⟨v, h3, rfl⟩ := keep_some e
    rw [lhead_eq, Array.getElem?_toList] at h3
    refine aop_of ?_
    unfold aopV keepR aextract
    rw [ho]
    simp only [← hg, h1, Option.bind_some, h3]
  case h_12 t x i ho =>
    split at e
    · rename_i n hn
      replace e := ob_some (show ob (g (CO.of C.gl x)) (fun u => ob (g (CO.of C.gl i)) fun j => onSlc u fun a k _ => ob a fun a => onInt j fun _ i => gd (nonneg i) (gd (Nat.ble (Nat.succ (natOf i)) k) (some (.pointer (some ⟨a.block, Nat.add a.off (Nat.mul (natOf i) n), none⟩), nx, h)))) = some r from e)
      obtain ⟨u, h1, e⟩ := e
      replace e := ob_some e
      obtain ⟨j, h2, e⟩ := e
      replace e := onSlc_some e
      obtain ⟨a, k, c, rfl, e⟩ := e
      replace e := ob_some e
      obtain ⟨ad, rfl, e⟩ := e
      replace e := onInt_some e
      obtain ⟨ki, iv, rfl, e⟩ := e
      replace e := gd_some e
      obtain ⟨h3, e⟩ := e
      replace e := gd_some e
      obtain ⟨h4, e⟩ := e
      injection e with e
      subst e
      have hi := nonneg_ok h3
      rw [nble, decide_eq_true_eq] at h4
      unfold elemSize at hn
      split at hn
      · rename_i el hel
        refine aop_of ?_
        unfold aopV keepR aindexAddr
        rw [ho]
        simp only [← hg, h1, h2, Option.bind_some, hel]
        rw [if_pos (by omega), hn]
        have : iv.toNat = natOf iv := by omega
        rw [this]
        rfl
      · cases hn
    · cases e
  case h_13 t x i ho =>
    split at e
    · rename_i ht
      replace e := ob_some (show ob (g (CO.of C.gl x)) (fun u => ob (g (CO.of C.gl i)) fun j => onStr u fun s => onInt j fun _ i => gd (nonneg i) (ob (lhead (ldrop (natOf i) s.data.toList)) fun b => some (.int .u8 (Int.ofNat b.toNat), nx, h))) = some r from e)
      obtain ⟨u, h1, e⟩ := e
      replace e := ob_some e
      obtain ⟨j, h2, e⟩ := e
      replace e := onStr_some e
      obtain ⟨s, rfl, e⟩ := e
      replace e := onInt_some e
      obtain ⟨ki, iv, rfl, e⟩ := e
      replace e := gd_some e
      obtain ⟨h3, e⟩ := e
      replace e := ob_some e
      obtain ⟨b, h4, e⟩ := e
      injection e with e
      subst e
      have hi := nonneg_ok h3
      rw [lhead_eq] at h4
      refine aop_of ?_
      unfold aopV
      rw [ho]
      have hp := pureRun_index (isStrT_ok ht) (k := ki) h4
      rw [← hi] at hp
      simp only [← hg, h1, h2, Option.bind_some, hp, flatV, flat1, flatC, Bool.and_self, if_true]
      rfl
    · cases e
  case h_14 t x ho =>
    replace e := ob_some (show ob (g (CO.of C.gl x)) (fun u => ob (cellsL u) fun vs => some (.pointer (some ⟨nx, 0, none⟩), Nat.succ nx, h.set nx (some ⟨vs, t, true, 0⟩))) = some r from e)
    obtain ⟨u, h1, e⟩ := e
    replace e := ob_some e
    obtain ⟨vs, h2, e⟩ := e
    injection e with e
    subst e
    obtain ⟨c1, c2⟩ := cellsL_ok h2
    refine aop_of ?_
    unfold aopV abox
    rw [ho]
    simp only [← hg, h1, c1, c2, Option.bind_some, if_true]
  case h_17 t ho =>
    split at e
    · rename_i z hz
      replace e := ob_some (show ob (cellsL z) (fun vs => some (.pointer (some ⟨nx, 0, none⟩), Nat.succ nx, h.set nx (some ⟨vs, t, true, 0⟩))) = some r from e)
      obtain ⟨vs, h2, e⟩ := e
      injection e with e
      subst e
      obtain ⟨c1, c2⟩ := cellsL_ok h2
      refine aop_of ?_
      unfold aopV aalloc abox
      rw [ho]
      simp only [hz, c1, c2, Option.bind_some, if_true]
    · cases e
  case h_18 c ho =>
    split at e
    · rename_i f hf
      replace e := ob_some (show ob (g (CO.of C.gl f)) (fun u => onFn u fun q fs cs => gd (nilL fs.toList) (gd (hasBody C.P q) (ob (xvals g (c.args.toList.map (CO.of C.gl))) fun vs => C.call q (app vs cs.toList) nx h))) = some r from e)
      obtain ⟨u, h1, e⟩ := e
      replace e := onFn_some e
      obtain ⟨q, fs, cs, rfl, e⟩ := e
      replace e := gd_some e
      obtain ⟨h2, e⟩ := e
      replace e := gd_some e
      obtain ⟨h3, e⟩ := e
      replace e := ob_some e
      obtain ⟨vs, h4, e⟩ := e
      rw [app_eq] at e
      unfold aop
      rw [ho]
      simp only [hf, ← hg f, h1, nilL_eq h2, Bool.true_and]
      unfold hasBody at h3
      rw [if_pos h3, xvals_ok hg h4]
      exact e
    · rename_i hf
      split at e
      · rename_i x t hx ht
        split at e
        · rename_i hst
          replace e := ob_some (show ob (g (CO.of C.gl x)) (fun u => onStr u fun s => some (.int .i64 (Int.ofNat (llen s.data.toList)), nx, h)) = some r from e)
          obtain ⟨u, h1, e⟩ := e
          replace e := onStr_some e
          obtain ⟨s, rfl, e⟩ := e
          injection e with e
          subst e
          refine aop_of ?_
          rw [aopV_call ho hf hx ht, ← hg, h1]
          simp only
          rw [apure_len (s := s) ho hf hx ht (isStrT_ok hst) (by rw [← hg, h1]), llen_eq]
          rfl
        · split at e
          · rename_i hsl
            replace e := ob_some (show ob (g (CO.of C.gl x)) (fun u => onSlc u fun _ n _ => some (.int .i64 (Int.ofNat n), nx, h)) = some r from e)
            obtain ⟨u, h1, e⟩ := e
            replace e := onSlc_some e
            obtain ⟨a, n, k, rfl, e⟩ := e
            injection e with e
            subst e
            obtain ⟨el, hel⟩ := isSlcT_ok hsl
            refine aop_of ?_
            rw [aopV_call ho hf hx ht, ← hg, h1]
            simp only [alen, hel, keepR, Option.bind_some]
            rfl
          · cases e
      · cases e
    · rename_i hf
      split at e
      · rename_i x y hx
        replace e := ob_some (show ob (g (CO.of C.gl x)) (fun u => ob (g (CO.of C.gl y)) fun v => onInt u fun k a => onInt v fun _ b => some (.int k (sel true (sel (iLt b a) b a) (sel (iLt a b) b a)), nx, h)) = some r from e)
        obtain ⟨u, h1, e⟩ := e
        replace e := ob_some e
        obtain ⟨v, h2, e⟩ := e
        replace e := onInt_some e
        obtain ⟨k, a, rfl, e⟩ := e
        replace e := onInt_some e
        obtain ⟨k', b, rfl, e⟩ := e
        injection e with e
        subst e
        refine aop_of ?_
        rw [aopV_mm ho hf (.inl rfl), apure_2 (r := .int k (sel (iLt b a) b a)) ho hf hx (by rw [← hg]; exact h1) (by rw [← hg]; exact h2) rfl rfl rfl (fun _ _ _ => by rw [sel_eq, iLt_eq]; simp only [decide_eq_true_eq]; rfl)]
        rfl
      · cases e
    · rename_i hf
      split at e
      · rename_i x y hx
        replace e := ob_some (show ob (g (CO.of C.gl x)) (fun u => ob (g (CO.of C.gl y)) fun v => onInt u fun k a => onInt v fun _ b => some (.int k (sel false (sel (iLt b a) b a) (sel (iLt a b) b a)), nx, h)) = some r from e)
        obtain ⟨u, h1, e⟩ := e
        replace e := ob_some e
        obtain ⟨v, h2, e⟩ := e
        replace e := onInt_some e
        obtain ⟨k, a, rfl, e⟩ := e
        replace e := onInt_some e
        obtain ⟨k', b, rfl, e⟩ := e
        injection e with e
        subst e
        refine aop_of ?_
        rw [aopV_mm ho hf (.inr rfl), apure_2 (r := .int k (sel (iLt a b) b a)) ho hf hx (by rw [← hg]; exact h1) (by rw [← hg]; exact h2) rfl rfl rfl (fun _ _ _ => by rw [sel_eq, iLt_eq]; simp only [decide_eq_true_eq]; rfl)]
        rfl
      · cases e
    · rename_i hf
      split at e
      · rename_i x y t u hx ht
        split at e
        · rename_i el es bytes hel
          split at e
          · rename_i hst
            split at e
            · rename_i hes
              subst hes
              replace e := ob_some (show ob (g (CO.of C.gl y)) (fun v => onStr v fun s => appTo g nx h el 1 bytes (CO.of C.gl x) (llen s.data.toList) (bcells s.data.toList)) = some r from e)
              obtain ⟨v, h1, e⟩ := e
              replace e := onStr_some e
              obtain ⟨s, rfl, e⟩ := e
              obtain ⟨_, hk⟩ := gd_some e
              obtain ⟨sv, h2, _⟩ := ob_some hk
              refine aop_of ?_
              rw [aopV_append ho hf hx ht (by rw [← hg]; exact h2) (by rw [← hg]; exact h1)]
              refine appTo_ok hel h2 ?_ e
              unfold asrc
              rw [isStrT_ok hst, llen_eq, bcells_eq]
              rfl
            · cases e
          · split at e
            · rename_i hsl
              replace e := ob_some (show ob (g (CO.of C.gl y)) (fun v => onSlc v fun b k c => ob b fun b => gd (Nat.beq c 1) (ob (h.get b.block) fun o => ob (ltakeE (Nat.mul k es) (ldrop b.off o.cells)) fun vs => appTo g nx h el es bytes (CO.of C.gl x) k vs)) = some r from e)
              obtain ⟨v, h1, e⟩ := e
              replace e := onSlc_some e
              obtain ⟨b, k, c, rfl, e⟩ := e
              replace e := ob_some e
              obtain ⟨b, rfl, e⟩ := e
              replace e := gd_some e
              obtain ⟨c1, e⟩ := e
              rw [nbeq, decide_eq_true_eq] at c1
              subst c1
              replace e := ob_some e
              obtain ⟨ob2, h3, e⟩ := e
              replace e := ob_some e
              obtain ⟨vs, h4, e⟩ := e
              rw [ldrop_eq] at h4
              obtain ⟨_, hk⟩ := gd_some e
              obtain ⟨sv, h2, _⟩ := ob_some hk
              obtain ⟨q, hq⟩ := isSlcT_ok hsl
              refine aop_of ?_
              rw [aopV_append ho hf hx ht (by rw [← hg]; exact h2) (by rw [← hg]; exact h1)]
              refine appTo_ok hel h2 ?_ e
              unfold asrc
              simp only [hq]
              rw [show k * es = Nat.mul k es from rfl, ltakeE_agets h3 _ _ _ h4]
              rfl
            · cases e
        · cases e
      · cases e
    · cases e
  case h_15 t x ho =>
    replace e := ob_some (show ob (g (CO.of C.gl x)) (fun u => onBool u fun b => some (.bool (sel b false true), nx, h)) = some r from e)
    obtain ⟨u, h1, e⟩ := e
    replace e := onBool_some e
    obtain ⟨b, rfl, e⟩ := e
    injection e with e
    subst e
    refine aop_of ?_
    unfold aopV
    rw [ho]
    simp only [← hg, h1, Option.bind_some, flatV, flat1, flatC, if_true]
    cases b <;> rfl
  case h_16 t x lo hi ho =>
    split at e
    · rename_i hst
      replace e := ob_some (show ob (g (CO.of C.gl x)) (fun u => onStr u fun s => ob (bndO g (lo.map (CO.of C.gl)) 0) fun l => ob (bndO g (hi.map (CO.of C.gl)) (llen s.data.toList)) fun q => gd (Nat.ble l q) (gd (Nat.ble q (llen s.data.toList)) (some (.string ⟨⟨ltake (Nat.sub q l) (ldrop l s.data.toList)⟩⟩, nx, h)))) = some r from e)
      obtain ⟨u, h1, e⟩ := e
      replace e := onStr_some e
      obtain ⟨s, rfl, e⟩ := e
      replace e := ob_some e
      obtain ⟨l, h2, e⟩ := e
      replace e := ob_some e
      obtain ⟨q, h3, e⟩ := e
      replace e := gd_some e
      obtain ⟨h4, e⟩ := e
      replace e := gd_some e
      obtain ⟨h5, e⟩ := e
      injection e with e
      subst e
      rw [nble, decide_eq_true_eq] at h4 h5
      rw [llen_eq] at h3 h5
      have hsz : s.data.toList.length = s.size := Array.length_toList
      rw [hsz] at h3 h5
      obtain ⟨b1, b2, b3⟩ := bndO_ok hg h2
      obtain ⟨c1, c2, c3⟩ := bndO_ok hg h3
      have hcut := pureRun_cut (P := C.P) (isStrT_ok hst) (s := s) (lo := lo.map fun x => (ρ x).getD undef) (hi := hi.map fun x => (ρ x).getD undef) (l := l) (q := q) (by
          rcases b3 with ⟨rfl, h⟩ | ⟨y, k, rfl, h⟩
          · exact .inl ⟨rfl, h⟩
          · exact .inr ⟨k, by simp [h]⟩) (by
          rcases c3 with ⟨rfl, h⟩ | ⟨y, k, rfl, h⟩
          · exact .inl ⟨rfl, h⟩
          · exact .inr ⟨k, by simp [h]⟩) h4 h5
      have hx : ρ x = some (.string s) := by rw [← hg]; exact h1
      have hval : s.extract l q = ⟨⟨ltake (Nat.sub q l) (ldrop l s.data.toList)⟩⟩ := by
        have : (s.extract l q).data = ⟨ltake (Nat.sub q l) (ldrop l s.data.toList)⟩ := by
          rw [ByteArray.data_extract]
          apply Array.ext'
          rw [Array.toList_extract, List.extract_eq_take_drop, ltake_eq, ldrop_eq]
          rfl
        rw [← this]
      have hrun : pureRun C.P (execOp (fun x => (ρ x).getD undef) o) = some (.value (.string (s.extract l q))) := by
        unfold execOp
        rw [ho]
        simp only [hx, Option.getD_some, pureRun_bind, Option.map_none]
        unfold Instr.sliceAt
        rw [pureRun_bind, pureRun_underlying (isStrT_ok hst)]
        show (pureRun C.P (Instr.slice t (.string s) _ _ _)).bind _ = _
        rw [hcut]
        rfl
      have hap : apure C.P ρ o = some (.string (s.extract l q)) := by
        refine apure_of (by rw [ho]; rfl) ?_ hrun rfl
        intro y hy
        rw [ho] at hy
        have hy : y = x ∨ lo = some y ∨ hi = some y := by simpa [Op.operands, or_assoc] using hy
        rcases hy with rfl | hy | hy
        · exact ⟨_, hx, rfl⟩
        · rcases b3 with ⟨h, _⟩ | ⟨y', k, h, h'⟩
          · rw [h] at hy; cases hy
          · rw [h] at hy; injection hy with hy; rw [← hy]; exact ⟨_, h', rfl⟩
        · rcases c3 with ⟨h, _⟩ | ⟨y', k, h, h'⟩
          · rw [h] at hy; cases hy
          · rw [h] at hy; injection hy with hy; rw [← hy]; exact ⟨_, h', rfl⟩
      refine aop_of ?_
      unfold aopV
      rw [ho]
      simp only [hx, hap, keepR, Option.bind_some]
      rw [hval]
    · split at e
      · rename_i n hn
        replace e := ob_some (show ob (g (CO.of C.gl x)) (fun u => onSlc u fun a k c => ob a fun a => ob (bndO g (lo.map (CO.of C.gl)) 0) fun l => ob (bndO g (hi.map (CO.of C.gl)) k) fun q => gd (Nat.ble l q) (gd (Nat.ble q k) (ob (h.get a.block) fun o => gd (Nat.beq o.es n) (some (slcR a k n l q u, nx, h))))) = some r from e)
        obtain ⟨u, h1, e⟩ := e
        replace e := onSlc_some e
        obtain ⟨a, k, c, rfl, e⟩ := e
        replace e := ob_some e
        obtain ⟨a, rfl, e⟩ := e
        replace e := ob_some e
        obtain ⟨l, h2, e⟩ := e
        replace e := ob_some e
        obtain ⟨q, h3, e⟩ := e
        replace e := gd_some e
        obtain ⟨h4, e⟩ := e
        replace e := gd_some e
        obtain ⟨h5, e⟩ := e
        replace e := ob_some e
        obtain ⟨ob2, h6, e⟩ := e
        replace e := gd_some e
        obtain ⟨h7, e⟩ := e
        injection e with e
        subst e
        rw [nble, decide_eq_true_eq] at h4 h5
        rw [nbeq, decide_eq_true_eq] at h7
        obtain ⟨b1, b2, _⟩ := bndO_ok hg h2
        obtain ⟨c1, c2, _⟩ := bndO_ok hg h3
        unfold elemSize at hn
        split at hn
        · rename_i el hel
          refine aop_of ?_
          unfold aopV
          rw [ho]
          have hx : ρ x = some (.slice (some a) k c) := by rw [← hg]; exact h1
          simp only [hx, b2, c2, Bool.and_self, if_true, Option.all_none]
          unfold keepR aslice
          have d1 : bnd ((none : Option Operand).bind ρ) k = some k := rfl
          simp only [hel, b1, c1, d1, Option.bind_some, hn, h6]
          rw [if_pos (show l ≤ q ∧ q ≤ k ∧ k ≤ k ∧ ob2.es = n ∧ (((none : Option Operand).bind ρ).isSome = true → (hi.bind ρ).isSome = true) from ⟨h4, h5, Nat.le_refl _, h7, fun h => by cases h⟩), slcR_eq]
          split
          · simp_all
          · split <;> simp_all
        · cases hn
      · cases e
  case h_19 => cases e
end
end Go.Proofs.YtcccapeaeehjiaaGreatDoor.AM
