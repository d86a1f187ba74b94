/- Bits of a number that is not known, case by case. -/
import Derived.Test.YtcccapeaeehjiaaGreatDoorAM4
namespace Go.Proofs.YtcccapeaeehjiaaGreatDoor.AM
noncomputable section
open Go Go.RowKit
set_option linter.unusedVariables false
set_option linter.unusedSimpArgs false
def bitTk (bs : List Int) (o : Oper) (ρ : Operand → Option Value) : Option Value := match o.op with
  | .binOp .shr _ x y _ => match ρ x, ρ y with
    | some (.chan (some 0)), some (.int _ s) => if 0 < s ∧ s < 64 then some (.chan (some s.toNat)) else none
    | _, _ => none
  | .binOp .and _ x y _ => match ρ x, ρ y with
    | some (.chan (some k)), some (.int .i64 b) => if b = 1 ∧ k < 64 then (bs[k]?).map (Value.int .i64) else none
    | _, _ => none
  | _ => none
def bitWv (a : Int) (k : Nat) : IntKind × Int := (.i64, a / 2 ^ k)
def bitGv (ts : List Tab) (a : Int) (bs : List Int) (mx : Int) : Gv := ⟨fun i => ts.any fun t => Nat.beq t.g i, fun k => if k = 1000 then (.i64, mx) else bitWv a k, bitTk bs⟩
theorem bitGv_wv (ts : List Tab) (a : Int) (bs : List Int) (mx : Int) {k : Nat} (h : k < 64) : (bitGv ts a bs mx).wv k = (.i64, a / 2 ^ k) := if_neg (by omega)
theorem and1 (a : Int) : IntKind.i64.wrap (BitVec.ofInt IntKind.i64.bits a &&& BitVec.ofInt IntKind.i64.bits 1).toNat = a % 2 := by
  have h1 : (BitVec.ofInt IntKind.i64.bits a &&& BitVec.ofInt IntKind.i64.bits 1).toNat = (a % 2).toNat := by
    rw [BitVec.toNat_and]
    show (BitVec.ofInt 64 a).toNat &&& 1 = _
    rw [show (1 : Nat) = 2 ^ 1 - 1 from rfl, Nat.and_two_pow_sub_one_eq_mod, BitVec.toNat_ofInt]
    omega
  rw [h1, IntKind.wrap_i64]
  omega
theorem bit_ok {P : Program} (ts : List Tab) (hng : NoNG P) (a : Int) (bs : List Int) (mx : Int) (hb : ∀ (k : Nat) (b : Int), bs[k]? = some b → a / 2 ^ k % 2 = b) : Base P (bitGv ts a bs mx) := by
  refine ⟨hng, ?_⟩
  intro o ρ r m ρ' w e hw hρ
  replace e : bitTk bs o ρ = some r := e
  unfold bitTk at e
  split at e
  · rename_i t x y yt ho
    split at e
    · rename_i yk s hx hy
      split at e
      · rename_i hs
        injection e with e
        subst e
        have h1 := (hρ x _ hx).inv_tok
        have h2 := (hρ y _ hy).inv_int
        rw [hw, bitGv_wv ts a bs mx (by decide)] at h1
        have h1' : ρ' x = .int .i64 a := by
          rw [h1]
          simp
        refine ⟨.int .i64 (a / 2 ^ s.toNat), ?_, ?_⟩
        · unfold execOp
          rw [ho]
          simp only [h1', h2]
          show (do eqGuard .shr t x y (.int .i64 a) (.int yk s); let v ← binOp .shr t (.int .i64 a) (.int yk s); pure (Next.value v) : Sem Next).run P w = _
          have hg : (eqGuard .shr t x y (.int .i64 a) (.int yk s)).run P w = .ok () w := rfl
          have hb : (binOp .shr t (.int .i64 a) (.int yk s)).run P w = .ok (.int .i64 (a / 2 ^ s.toNat)) w := by
            rw [binOp_shr]
            have q : Op.shift .shr .i64 a yk s = pure (.int .i64 (a / 2 ^ s.toNat)) := shift_shr_i64 yk a s (by omega) (by omega)
            rw [q]; rfl
          simp only [Sem.run_bind, hg, hb, Result.andThen_ok, Sem.run_pure]
        · have := VR.cell (CR.tok (m := m) s.toNat)
          rw [hw, bitGv_wv ts a bs mx (by omega)] at this
          exact this
      · cases e
    · cases e
  · rename_i t x y yt ho
    split at e
    · rename_i k b hx hy
      split at e
      · rename_i hb1
        obtain ⟨hb1, hk64⟩ := hb1
        subst hb1
        obtain ⟨bv, hbv, rfl⟩ := Option.map_eq_some_iff.1 e
        have h1 := (hρ x _ hx).inv_tok
        have h2 := (hρ y _ hy).inv_int
        rw [hw, bitGv_wv ts a bs mx hk64] at h1
        have h1' : ρ' x = .int .i64 (a / 2 ^ k) := h1
        refine ⟨.int .i64 bv, ?_, VR.flat rfl⟩
        unfold execOp
        rw [ho]
        simp only [h1', h2]
        show (do eqGuard .and t x y (.int .i64 (a / 2 ^ k)) (.int .i64 1); let v ← binOp .and t (.int .i64 (a / 2 ^ k)) (.int .i64 1); pure (Next.value v) : Sem Next).run P w = _
        have hg : (eqGuard .and t x y (.int .i64 (a / 2 ^ k)) (.int .i64 1)).run P w = .ok () w := rfl
        have hb3 : (binOp .and t (.int .i64 (a / 2 ^ k)) (.int .i64 1)).run P w = .ok (.int .i64 bv) w := by
          rw [← hb k bv hbv, ← and1 (a / 2 ^ k)]; rfl
        simp only [Sem.run_bind, hg, hb3, Result.andThen_ok, Sem.run_pure]
      · cases e
    · cases e
  · cases e
theorem bit_arg (ts : List Tab) (a : Int) (bs : List Int) (mx : Int) (m : M) (h : m.wv = (bitGv ts a bs mx).wv) : L2 (VR m) [.chan (some 0)] [.int .i64 a] := by
  have := VR.cell (CR.tok (m := m) 0)
  rw [h, bitGv_wv ts a bs mx (by decide)] at this
  have e : Value.int .i64 (a / 2 ^ 0) = .int .i64 a := by simp
  rw [e] at this
  exact .cons this .nil
end
end Go.Proofs.YtcccapeaeehjiaaGreatDoor.AM
