/- One operation that enters no function: sound. -/
import Derived.Test.YtcccapeaeehjiaaGreatDoorAMg
namespace Go.Proofs.YtcccapeaeehjiaaGreatDoor.AM
noncomputable section
open Go Go.RowKit
set_option linter.unusedVariables false
set_option linter.unusedSimpArgs false
/-- The model runs an operation to what the machine says. -/
def NOk (P : Program) (F : Nat → Prop) (w0 : World) (m : M) (w : World) (s : Sem Next) (v : Value) (n n' : Nat) (h' : Tr AObj) : Prop :=
  ∃ m' v' w', (s.run P w = .ok (.value v') w' ∨ (s.run P w = .ok .skip w' ∧ v' = undef)) ∧ Ext m m' ∧ (∀ i, m'.dom i ↔ m.dom i ∨ (n ≤ i ∧ i < n')) ∧ VR m' v v' ∧ Rel F w0 m' h' w'
section
variable {P : Program} {F : Nat → Prop} {w0 w : World} {m : M} {h : Tr AObj} {nx : Nat}
theorem ok_next {s : Sem Value} {v : Value} {n' : Nat} {h' : Tr AObj} (k : Ok P F w0 m w s v nx n' h') : NOk P F w0 m w (do let x ← s; pure (Next.value x)) v nx n' h' := by
  obtain ⟨m', v', w', h1, h2⟩ := k
  refine ⟨m', v', w', .inl ?_, h2⟩
  simp only [Sem.run_bind, h1, Result.andThen_ok, Sem.run_pure]
theorem NOk.same (R : Rel F w0 m h w) {s : Sem Next} {v v' : Value} (hr : s.run P w = .ok (.value v') w) (r : VR m v v') : NOk P F w0 m w s v nx nx h := ⟨m, v', w, .inl hr, Ext.refl m, dom_same _ _, r, R⟩
def isSel : Op → Bool
  | .select .. => true
  | _ => false
/-! ### the common operations, without the model's own dispatch -/
def aints (P : Program) (op : BinOp) (k : IntKind) (a : Int) (k' : IntKind) (b : Int) : Option Value :=
  match op with
  | .shl => pureRun P (Op.shift .shl k a k' b)
  | .shr => pureRun P (Op.shift .shr k a k' b)
  | .add => if k = k' then pureRun P (Op.intArith .add k a b) else none
  | .sub => if k = k' then pureRun P (Op.intArith .sub k a b) else none
  | .mul => if k = k' then pureRun P (Op.intArith .mul k a b) else none
  | .quo => if k = k' then pureRun P (Op.intDiv .quo k a b) else none
  | .rem => if k = k' then pureRun P (Op.intDiv .rem k a b) else none
  | .and => if k = k' then pureRun P (Op.intBits .and k a b) else none
  | .or => if k = k' then pureRun P (Op.intBits .or k a b) else none
  | .xor => if k = k' then pureRun P (Op.intBits .xor k a b) else none
  | .andNot => if k = k' then pureRun P (Op.intBits .andNot k a b) else none
  | .eql => if k = k' then pureRun P (Op.intCmp .eql a b) else none
  | .neq => if k = k' then pureRun P (Op.intCmp .neq a b) else none
  | .lss => if k = k' then pureRun P (Op.intCmp .lss a b) else none
  | .leq => if k = k' then pureRun P (Op.intCmp .leq a b) else none
  | .gtr => if k = k' then pureRun P (Op.intCmp .gtr a b) else none
  | .geq => if k = k' then pureRun P (Op.intCmp .geq a b) else none
def abin (P : Program) (op : BinOp) (u v : Value) : Option Value :=
  match u, v with
  | .int k a, .int k' b => (aints P op k a k' b).bind fun r => if flatV r then some r else none
  | .string a, .string b => (pureRun P (Op.stringOp op a b)).bind fun r => if flatV r then some r else none
  | _, _ => none
theorem abin_sound {t : Nat} {op : BinOp} {x y : Operand} {u v r : Value} (e : abin P op u v = some r) : (eqGuard op t x y u v).run P w = .ok () w ∧ (binOp op t u v).run P w = .ok r w ∧ flatV r = true ∧ flatV u = true ∧ flatV v = true := by
  unfold abin at e
  split at e
  · rename_i k a k' b
    replace e := Option.bind_eq_some_iff.1 e
    obtain ⟨r1, h1, e⟩ := e
    split at e
    · rename_i hfl
      injection e with e
      subst e
      refine ⟨?_, ?_, hfl, rfl, rfl⟩
      · unfold eqGuard
        split <;> rfl
      · unfold aints at h1
        split at h1 <;> first
          | exact pureRun_run _ _ h1 w
          | (split at h1
             · rename_i hk
               subst hk
               refine (congrArg (fun z => Sem.run P z w) ?_).trans (pureRun_run _ _ h1 w)
               simp [binOp]
             · cases h1)
    · cases e
  · rename_i a b
    replace e := Option.bind_eq_some_iff.1 e
    obtain ⟨r1, h1, e⟩ := e
    split at e
    · rename_i hfl
      injection e with e
      subst e
      refine ⟨?_, ?_, hfl, rfl, rfl⟩
      · unfold eqGuard
        split <;> rfl
      · refine (congrArg (fun z => Sem.run P z w) ?_).trans (pureRun_run _ _ h1 w)
        cases op <;> rfl
    · cases e
  · cases e
/-- An operation on flat operands. -/
def apure (P : Program) (ρ : Operand → Option Value) (o : Oper) : Option Value :=
  if !isSel o.op && o.op.operands.all (fun x => match ρ x with | some v => flatV v | none => false) then
    match pureRun P (execOp (fun x => (ρ x).getD undef) o) with
    | some (.value v) => if flatV v then some v else none
    | _ => none
  else none
theorem apure_sound (R : Rel F w0 m h w) {ρ : Operand → Option Value} {ρ' : Operand → Value} (hρ : ∀ x v, ρ x = some v → VR m v (ρ' x)) {o : Oper} {v : Value} (e : apure P ρ o = some v) : NOk P F w0 m w (execOp ρ' o) v nx nx h := by
  unfold apure at e
  split at e
  · rename_i hc
    simp only [Bool.and_eq_true, Bool.not_eq_true', Array.all_eq_true_iff_forall_mem] at hc
    split at e
    · rename_i v1 hp
      split at e
      · rename_i hfl
        injection e with e
        subst e
        refine NOk.same R (v' := v1) ?_ (flatV_VR m hfl)
        rw [← pureRun_run _ _ hp w]
        congr 1
        refine Go.execOp_congr o (fun cs b hb => by rw [hb] at hc; exact absurd hc.1 (by simp [isSel])) (fun x hx => ?_)
        have := hc.2 x hx
        cases hx1 : ρ x with
        | none => rw [hx1] at this; cases this
        | some u =>
          rw [hx1] at this
          exact flatV_eq this (hρ x u hx1)
      · cases e
    · cases e
  · cases e
def aparts (ρ : Operand → Option Value) : List (Nat × Operand) → Option (List (Nat × Value))
  | [] => some []
  | (i, x) :: l => (ρ x).bind fun v => if notTup v then (aparts ρ l).bind fun r => some ((i, v) :: r) else none
theorem aparts_sound {ρ : Operand → Option Value} {ρ' : Operand → Value} (hρ : ∀ x v, ρ x = some v → VR m v (ρ' x)) : ∀ {l : List (Nat × Operand)} {r : List (Nat × Value)}, aparts ρ l = some r → PP m r (l.map fun p => (p.1, ρ' p.2))
  | [], r, e => by unfold aparts at e; injection e with e; subst e; exact .nil
  | (i, x) :: l, r, e => by
    unfold aparts at e
    obtain ⟨v, hv, e⟩ := Option.bind_eq_some_iff.1 e
    split at e
    · rename_i hn
      obtain ⟨r', h2, e⟩ := Option.bind_eq_some_iff.1 e
      injection e with e
      subst e
      exact .cons hn (hρ x v hv) (aparts_sound hρ h2)
    · cases e
def acaps (ρ : Operand → Option Value) : List Operand → Option (List Value)
  | [] => some []
  | x :: l => match ρ x with
    | some (.pointer (some a)) => (acaps ρ l).bind fun r => some (.pointer (some a) :: r)
    | _ => none
theorem acaps_sound {ρ : Operand → Option Value} {ρ' : Operand → Value} (hρ : ∀ x v, ρ x = some v → VR m v (ρ' x)) : ∀ {l : List Operand} {r : List Value}, acaps ρ l = some r → L2 (fun x y => ∃ a, x = .pointer (some a) ∧ m.dom a.block ∧ y = .pointer (some (mv m a))) r (l.map ρ')
  | [], r, e => by unfold acaps at e; injection e with e; subst e; exact .nil
  | x :: l, r, e => by
    unfold acaps at e
    split at e
    · rename_i a ha
      obtain ⟨r', h2, e⟩ := Option.bind_eq_some_iff.1 e
      injection e with e
      subst e
      obtain ⟨k1, k2⟩ := (hρ x _ ha).inv_ptr
      exact .cons ⟨a, rfl, k1, k2⟩ (acaps_sound hρ h2)
    · cases e
/-- a comparison with nil of what is none -/
def anil (P : Program) (t : Nat) (x y : Value) : Bool :=
  match P.underlying t, x, y with
  | some (.slice _), .slice (some _) _ _, .slice none 0 0 => true
  | some (.pointer _), .pointer (some _), .pointer none => true
  | some (.func ..), .func (.func _) _ _, .nilFunc => true
  | _, _, _ => false
theorem VR.inv_fn {f : FuncId} {fs cs : Array Value} {v' : Value} (r : VR m (.func (.func f) fs cs) v') : ∃ cs', v' = .func (.func f) fs cs' := by
  cases r with
  | one r => cases r with
    | c r => cases r with
      | flat h => exact ⟨cs, rfl⟩
      | fn _ _ cs' => exact ⟨cs', rfl⟩
theorem equal_slice {t el : Nat} (hs : P.underlying t = some (.slice el)) (A : Addr) (n c : Nat) : (Op.equal t (.slice (some A) n c) (.slice none 0 0)).run P w = .ok false w := by
  show (Op.equalIn (9999 + 1) t (.slice (some A) n c) (.slice none 0 0)).run P w = _
  rw [Op.equalIn]
  simp only [Sem.run_bind, run_underlying hs, Result.andThen_ok, Sem.run_pure]
theorem equal_ptr {t el : Nat} (hs : P.underlying t = some (.pointer el)) (A : Addr) : (Op.equal t (.pointer (some A)) (.pointer none)).run P w = .ok false w := by
  show (Op.equalIn (9999 + 1) t (.pointer (some A)) (.pointer none)).run P w = _
  rw [Op.equalIn]
  simp only [Sem.run_bind, run_underlying hs, Result.andThen_ok, Sem.run_pure]
theorem equal_fn {t : Nat} {a1 a2 : Array TypeId} {b : Bool} (hs : P.underlying t = some (.func a1 a2 b)) (f : Fn) (x y : Array Value) : (Op.equal t (.func f x y) .nilFunc).run P w = .ok false w := by
  show (Op.equalIn (9999 + 1) t (.func f x y) .nilFunc).run P w = _
  rw [Op.equalIn]
  simp only [Sem.run_bind, run_underlying hs, Result.andThen_ok, Sem.run_pure]
theorem anil_sound {t : Nat} {op : BinOp} {x y : Operand} {u v u' v' : Value} (hu : VR m u u') (hv : VR m v v') (ho : op = .eql ∨ op = .neq) (e : anil P t u v = true) :
    (eqGuard op t x y u' v').run P w = .ok () w ∧ (binOp op t u' v').run P w = .ok (.bool (op == .neq)) w := by
  have fin : ∀ (b : Value), b = v' → (eqGuard op t x y u' v').run P w = .ok () w → binOp op t u' v' = (match op with | .eql => do pure (.bool (← Op.equal t u' v')) | _ => do pure (.bool (!(← Op.equal t u' v')))) → (Op.equal t u' v').run P w = .ok false w →
      (eqGuard op t x y u' v').run P w = .ok () w ∧ (binOp op t u' v').run P w = .ok (.bool (op == .neq)) w := by
    intro b _ h1 h2 h3
    refine ⟨h1, ?_⟩
    rw [h2]
    rcases ho with rfl | rfl <;> (simp only [Sem.run_bind, h3, Result.andThen_ok, Sem.run_pure]; rfl)
  unfold anil at e
  split at e
  · rename_i el a n c hs
    have hv' := hv.inv_flat rfl
    subst hv'
    have : ∃ A c', u' = .slice (some A) n c' := by
      rcases hu.inv_slc with ⟨_, c', rfl, _⟩ | ⟨_, hn, b, c', rfl⟩
      · exact ⟨_, c', rfl⟩
      · exact ⟨b, c', by rw [hn]⟩
    obtain ⟨A, c', rfl⟩ := this
    exact fin _ rfl (by rcases ho with rfl | rfl <;> rfl) (by rcases ho with rfl | rfl <;> rfl) (equal_slice hs A n c')
  · rename_i el a hs
    have hv' := hv.inv_flat rfl
    subst hv'
    obtain ⟨_, rfl⟩ := hu.inv_ptr
    exact fin _ rfl (by rcases ho with rfl | rfl <;> rfl) (by rcases ho with rfl | rfl <;> rfl) (equal_ptr hs _)
  · rename_i f cs ds hs
    have hv' := hv.inv_flat rfl
    subst hv'
    obtain ⟨cs', rfl⟩ := hu.inv_fn
    exact fin _ rfl (by rcases ho with rfl | rfl <;> rfl) (by rcases ho with rfl | rfl <;> rfl) (equal_fn hs _ _ _)
  · cases e
end
end
end Go.Proofs.YtcccapeaeehjiaaGreatDoor.AM
