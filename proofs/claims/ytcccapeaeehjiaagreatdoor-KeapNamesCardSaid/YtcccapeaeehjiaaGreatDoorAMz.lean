/- Tables of calls that are known, and an index that is not. -/
import Derived.Test.YtcccapeaeehjiaaGreatDoorAMw
namespace Go.Proofs.YtcccapeaeehjiaaGreatDoor.AM
noncomputable section
open Go Go.RowKit
set_option linter.unusedVariables false
set_option linter.unusedSimpArgs false
structure Known where
  f : FuncId
  s : Option (List UInt8)
  v : Value
def knownAt (f : FuncId) (s : Option (List UInt8)) : List Known → Option Value
  | [] => none
  | k :: l => if k.f = f ∧ k.s = s then some k.v else knownAt f s l
def specOf (l : List Known) (f : FuncId) : List Value → Option Value
  | [] => knownAt f none l
  | [.string s] => knownAt f (some s.data.toList) l
  | _ => none
def argOf : Option (List UInt8) → List Value
  | none => []
  | some l => [.string ⟨⟨l⟩⟩]
theorem knownAt_mem {f : FuncId} {s : Option (List UInt8)} {v : Value} : ∀ {l : List Known}, knownAt f s l = some v → ∃ k ∈ l, k.f = f ∧ k.s = s ∧ k.v = v
  | [], h => by cases h
  | k :: l, h => by
    unfold knownAt at h
    split at h
    · rename_i hk; injection h with h; exact ⟨k, List.mem_cons_self, hk.1, hk.2, h⟩
    · obtain ⟨q, h1, h2⟩ := knownAt_mem h; exact ⟨q, List.mem_cons_of_mem _ h1, h2⟩
/-- Is one of these asked at all? (first, for speed) -/
def knownT (l : List Known) : SumT := fun f args nx h => if l.any (fun k => Nat.beq k.f f) then flatT (specOf l) f args nx h else none
theorem flatT_specOf {P : Program} {gl : Gv} {l : List Known} (hl : ∀ k ∈ l, FlatCall P k.f (argOf k.s) k.v) : TOK P gl (flatT (specOf l)) := by
  refine flatT_ok fun f args v h _ => ?_
  unfold specOf at h
  split at h
  · obtain ⟨k, h1, rfl, h3, rfl⟩ := knownAt_mem h
    have := hl k h1
    rw [h3] at this
    exact this
  · rename_i s
    obtain ⟨k, h1, rfl, h3, rfl⟩ := knownAt_mem h
    have := hl k h1
    rw [h3] at this
    exact this
  · cases h
theorem knownT_ok {P : Program} {gl : Gv} {l : List Known} (hl : ∀ k ∈ l, FlatCall P k.f (argOf k.s) k.v) : TOK P gl (knownT l) := by
  have H := flatT_specOf (gl := gl) hl
  refine ⟨fun {f args nx h v n' h'} e => ?_, fun {f args args' nx h v n' h' F w0 w m} e R G ha hf => ?_⟩
  · unfold knownT at e
    split at e
    · exact H.mono (f := f) (args := args) (nx := nx) (h := h) (v := v) (n' := n') (h' := h') e
    · cases e
  · unfold knownT at e
    split at e
    · exact H.ok (f := f) (args := args) (nx := nx) (h := h) (v := v) (n' := n') (h' := h') e R G ha hf
    · cases e
/-! ### 'which & 255 % n' -/
def idxTk (n i : Int) (o : Oper) (ρ : Operand → Option Value) : Option Value := match o.op with
  | .binOp .and _ x y _ => match ρ x, ρ y with
    | some (.chan (some 0)), some (.int .i64 b) => if b = 255 then some (.chan (some 1)) else none
    | _, _ => none
  | .binOp .rem _ x y _ => match ρ x, ρ y with
    | some (.chan (some 1)), some (.int .i64 b) => if b = n then some (.int .i64 i) else none
    | _, _ => none
  | _ => none
def idxGv (a : Int) (n i : Int) : Gv := ⟨fun _ => false, fun k => if k = 0 then (.i64, a) else (.i64, a % 256), idxTk n i⟩
theorem VR.inv_tok {m : M} {k : Nat} {v' : Value} (h : VR m (.chan (some k)) v') : v' = .int (m.wv k).1 (m.wv k).2 := by
  cases h with
  | one h => cases h with
    | c h => cases h with
      | flat h => simp [flatC] at h
      | tok => rfl
theorem and255 (a : Int) : IntKind.i64.wrap (BitVec.ofInt IntKind.i64.bits a &&& BitVec.ofInt IntKind.i64.bits 255).toNat = a % 256 := by
  have h1 : (BitVec.ofInt IntKind.i64.bits a &&& BitVec.ofInt IntKind.i64.bits 255).toNat = (a % 256).toNat := by
    rw [BitVec.toNat_and]
    show (BitVec.ofInt 64 a).toNat &&& 255 = _
    rw [show (255 : Nat) = 2 ^ 8 - 1 from rfl, Nat.and_two_pow_sub_one_eq_mod, BitVec.toNat_ofInt]
    omega
  rw [h1, IntKind.wrap_i64]
  omega
theorem idx_ok {P : Program} (hng : NoNG P) (a n i : Int) (hn : 0 < n) (hi : (a % 256) % n = i) : Base P (idxGv a n i) := by
  refine ⟨hng, ?_⟩
  intro o ρ r m ρ' w e hw hρ
  replace e : idxTk n i o ρ = some r := e
  unfold idxTk at e
  split at e
  · rename_i t x y yt ho
    split at e
    · rename_i b hx hy
      split at e
      · rename_i hb
        subst hb
        injection e with e
        subst e
        have h1 := (hρ x _ hx).inv_tok
        have h2 := (hρ y _ hy).inv_int
        rw [hw] at h1
        refine ⟨.int .i64 (a % 256), ?_, ?_⟩
        · unfold execOp
          rw [ho]
          simp only [h1, h2]
          show (do eqGuard .and t x y (.int .i64 a) (.int .i64 255); let v ← binOp .and t (.int .i64 a) (.int .i64 255); pure (Next.value v) : Sem Next).run P w = _
          have hg : (eqGuard .and t x y (.int .i64 a) (.int .i64 255)).run P w = .ok () w := rfl
          have hb : (binOp .and t (.int .i64 a) (.int .i64 255)).run P w = .ok (.int .i64 (a % 256)) w := by
            rw [← and255 a]; rfl
          simp only [Sem.run_bind, hg, hb, Result.andThen_ok, Sem.run_pure]
        · have := VR.cell (CR.tok (m := m) 1)
          rw [hw] at this
          exact this
      · cases e
    · cases e
  · rename_i t x y yt ho
    split at e
    · rename_i b hx hy
      split at e
      · rename_i hb
        subst hb
        injection e with e
        subst e
        have h1 := (hρ x _ hx).inv_tok
        have h2 := (hρ y _ hy).inv_int
        rw [hw] at h1
        refine ⟨.int .i64 i, ?_, VR.flat rfl⟩
        unfold execOp
        rw [ho]
        simp only [h1, h2]
        show (do eqGuard .rem t x y (.int .i64 (a % 256)) (.int .i64 b); let v ← binOp .rem t (.int .i64 (a % 256)) (.int .i64 b); pure (Next.value v) : Sem Next).run P w = _
        have hg : (eqGuard .rem t x y (.int .i64 (a % 256)) (.int .i64 b)).run P w = .ok () w := rfl
        have hb : (binOp .rem t (.int .i64 (a % 256)) (.int .i64 b)).run P w = .ok (.int .i64 i) w := by
          have h0 : ¬ b = 0 := by omega
          have h3 : (a % 256).tmod b = i := by
            rw [Int.tmod_eq_emod_of_nonneg (by omega)]; exact hi
          have : binOp .rem t (.int .i64 (a % 256)) (.int .i64 b) = pure (.int .i64 ((a % 256).tmod b)) := by
            simp [binOp, Op.intDiv, h0]
          rw [this, h3]; rfl
        simp only [Sem.run_bind, hg, hb, Result.andThen_ok, Sem.run_pure]
      · cases e
    · cases e
  · cases e
theorem idx_arg (a n i : Int) (m : M) (h : m.wv = (idxGv a n i).wv) : L2 (VR m) [.chan (some 0)] [.int .i64 a] := by
  have := VR.cell (CR.tok (m := m) 0)
  rw [h] at this
  exact .cons this .nil
end
end Go.Proofs.YtcccapeaeehjiaaGreatDoor.AM
