/- Frames, code, calls: the machine, and that what it says is what the model does. -/
import Derived.Test.YtcccapeaeehjiaaGreatDoorAMy
import Derived.LoopN
import Derived.Scope
namespace Go.Proofs.YtcccapeaeehjiaaGreatDoor.AM
noncomputable section
open Go Go.RowKit
set_option linter.unusedVariables false
set_option linter.unusedSimpArgs false
structure St where
  fr : Tr Value
  nx : Nat
  h : Tr AObj
inductive AX where
  | normal
  | exit (id : Nat)
  | ret
def AX.x : AX → Exit
  | .normal => .normal
  | .exit id => .exit id
  | .ret => .ret
abbrev CallF := FuncId → List Value → Nat → Tr AObj → Res
/-- What is known of global variables; what the tokens stand for; a table of operations on tokens. -/
structure Gv where
  g : Nat → Bool
  wv : Nat → IntKind × Int
  tk : Oper → (Operand → Option Value) → Option Value
/-- The program, what is known of its global variables, how calls are answered, how often a loop may turn, how many places the frame has. -/
structure Ctx where
  P : Program
  gl : Gv
  call : CallF
  rounds : Nat
  nt : Nat
def aeval (gl : Gv) (fr : Nat → Option Value) : Operand → Option Value
  | .tmp t => fr t
  | .const v => if flatV v then some v else none
  | .global g => if gl.g g then some (.pointer (some ⟨g, 0, none⟩)) else none
  | .func f => some (.func (.func f) #[] #[])
def aset (nt : Nat) (fr : Tr Value) (dst : Option Tmp) (v : Value) : Option (Tr Value) :=
  match dst with
  | none => some fr
  | some d => if d < nt then some (fr.set d (some v)) else none
/-- Whether the operation is run; none: it can't be told. -/
def awanted (ops : Array Oper) (fr : Nat → Option Value) (o : Oper) : Option Bool :=
  match o.guard with
  | none => some true
  | some (g, want) => match (ops[g]?).bind (·.dst) with
    | none => some false
    | some t => match fr t with
      | some (.bool b) => some (b == want)
      | some (.tuple _) => some false
      | _ => none
def avals (ρ : Operand → Option Value) : List Operand → Option (List Value)
  | [] => some []
  | x :: l => (ρ x).bind fun v => (avals ρ l).bind fun r => some (v :: r)
def orTok (gl : Gv) (ρ : Operand → Option Value) (nx : Nat) (h : Tr AObj) (o : Oper) (r : Res) : Res :=
  match r with
  | some r => some r
  | none => keepR nx h (gl.tk o ρ)
/-- An operation that enters no function. -/
def aopX (P : Program) (ρ : Operand → Option Value) (nx : Nat) (h : Tr AObj) (o : Oper) : Res :=
  match aopV P ρ nx h o with
  | some r => some r
  | none => aopE P ρ nx h o
theorem aopX_of {P : Program} {ρ : Operand → Option Value} {nx : Nat} {h : Tr AObj} {o : Oper} {r : Value × Nat × Tr AObj} (e : aopX P ρ nx h o = some r) : aopV P ρ nx h o = some r ∨ aopE P ρ nx h o = some r := by
  unfold aopX at e
  split at e
  · rename_i q hq; rw [← e]; exact .inl hq
  · exact .inr e
def aop (C : Ctx) (ρ : Operand → Option Value) (nx : Nat) (h : Tr AObj) (o : Oper) : Res :=
  match o.op with
  | .call c => match c.callee with
    | .value f => match ρ f with
      | some (.func (.func g) fs cs) => if fs.isEmpty && ((C.P.funcs[g]?).bind (·.body)).isSome then (avals ρ c.args.toList).bind fun vs => C.call g (vs ++ cs.toList) nx h else aopE C.P ρ nx h o
      | _ => none
    | _ => aopX C.P ρ nx h o
  | _ => orTok C.gl ρ nx h o (aopX C.P ρ nx h o)
def astep (C : Ctx) (ops : Array Oper) (o : Oper) (s : St) : Option St :=
  match awanted ops s.fr.get o with
  | some true => (aop C (aeval C.gl s.fr.get) s.nx s.h o).bind fun r => (aset C.nt s.fr o.dst r.1).bind fun fr => some ⟨fr, r.2.1, r.2.2⟩
  | some false => (aset C.nt s.fr o.dst undef).bind fun fr => some ⟨fr, s.nx, s.h⟩
  | none => none
def aopsI (C : Ctx) (ops : Array Oper) : List Oper → St → Option St
  | [], s => some s
  | o :: r, s => (astep C ops o s).bind (aopsI C ops r)
noncomputable def aops (C : Ctx) (ops : Array Oper) (l : List Oper) : St → Option St :=
  List.rec (motive := fun _ => St → Option St) (fun s => some s) (fun o _ f s => (astep C ops o s).bind f) l
theorem aops_nil (C : Ctx) (ops : Array Oper) (s : St) : aops C ops [] s = some s := rfl
theorem aops_cons (C : Ctx) (ops : Array Oper) (o : Oper) (r : List Oper) (s : St) : aops C ops (o :: r) s = (astep C ops o s).bind (aops C ops r) := rfl
def aseq (a b : St → Option (AX × St)) (s : St) : Option (AX × St) :=
  match a s with
  | some (.normal, s') => b s'
  | r => r
def ablock (id : Nat) (b : St → Option (AX × St)) (s : St) : Option (AX × St) :=
  match b s with
  | some (.exit i, s') => if i = id then some (.normal, s') else some (.exit i, s')
  | r => r
def acond (gl : Gv) (c : Operand) (t e : St → Option (AX × St)) (s : St) : Option (AX × St) :=
  match aeval gl s.fr.get c with
  | some (.bool true) => t s
  | some (.bool false) => e s
  | _ => none
def aloopI (b : St → Option (AX × St)) : Nat → St → Option (AX × St)
  | 0, _ => none
  | n + 1, s => match b s with
    | some (.normal, s') => aloopI b n s'
    | r => r
noncomputable def aloop (b : St → Option (AX × St)) (n : Nat) : St → Option (AX × St) :=
  Nat.rec (motive := fun _ => St → Option (AX × St)) (fun _ => none) (fun _ f => aseq b f) n
theorem aloop_zero (b : St → Option (AX × St)) (s : St) : aloop b 0 s = none := rfl
theorem aloop_succ (b : St → Option (AX × St)) (n : Nat) (s : St) : aloop b (n + 1) s = (match b s with
    | some (.normal, s') => aloop b n s'
    | r => r) := rfl
def aregion (C : Ctx) (D : Array Oper → St → Option St) (ops : Array Oper) (draw : Bool) (s : St) : Option (AX × St) := (if draw then D ops s else aops C ops ops.toList s).bind fun s => some (.normal, s)
def acodeI (C : Ctx) (D : Array Oper → St → Option St) : Code → St → Option (AX × St)
  | .skip, s => some (.normal, s)
  | .label _, s => some (.normal, s)
  | .region _ ops draw, s => aregion C D ops draw s
  | .seq a b, s => aseq (acodeI C D a) (acodeI C D b) s
  | .cond c t e, s => acond C.gl c (acodeI C D t) (acodeI C D e) s
  | .block id b, s => ablock id (acodeI C D b) s
  | .loop b, s => aloop (acodeI C D b) C.rounds s
  | .exit id, s => some (.exit id, s)
  | .scope b, s => acodeI C D b s
  | .ret, s => some (.ret, s)
  | _, _ => none
noncomputable def acode (C : Ctx) (D : Array Oper → St → Option St) (c : Code) : St → Option (AX × St) :=
  Code.rec (motive := fun _ => St → Option (AX × St)) (fun s => some (.normal, s)) (fun _ ops draw => aregion C D ops draw) (fun _ _ a b => aseq a b) (fun c _ _ t e => acond C.gl c t e) (fun id _ b => ablock id b) (fun _ b => aloop b C.rounds)
    (fun _ _ _ _ _ _ _ => none) (fun id s => some (.exit id, s)) (fun _ b => b) (fun _ s => some (.normal, s)) (fun _ _ => none) (fun s => some (.ret, s)) (fun _ _ => none) c
section
variable (C : Ctx) (D : Array Oper → St → Option St) (s : St)
theorem acode_skip : acode C D .skip s = some (.normal, s) := rfl
theorem acode_label (l : Nat) : acode C D (.label l) s = some (.normal, s) := rfl
theorem acode_region (id : Nat) (ops : Array Oper) (draw : Bool) : acode C D (.region id ops draw) s = (if draw then D ops s else aops C ops ops.toList s).bind fun s => some (.normal, s) := rfl
theorem acode_seq (a b : Code) : acode C D (.seq a b) s = (match acode C D a s with
    | some (.normal, s') => acode C D b s'
    | r => r) := rfl
theorem acode_cond (c : Operand) (t e : Code) : acode C D (.cond c t e) s = (match aeval C.gl s.fr.get c with
    | some (.bool true) => acode C D t s
    | some (.bool false) => acode C D e s
    | _ => none) := rfl
theorem acode_block (id : Nat) (b : Code) : acode C D (.block id b) s = (match acode C D b s with
    | some (.exit i, s') => if i = id then some (.normal, s') else some (.exit i, s')
    | r => r) := rfl
theorem acode_loop (b : Code) : acode C D (.loop b) s = aloop (acode C D b) C.rounds s := rfl
theorem acode_exit (id : Nat) : acode C D (.exit id) s = some (.exit id, s) := rfl
theorem acode_scope (b : Code) : acode C D (.scope b) s = acode C D b s := rfl
theorem acode_ret : acode C D .ret s = some (.ret, s) := rfl
end
/-! ### what is meant -/
structure FR (m : M) (nt : Nat) (fr : Nat → Option Value) (a : Act) : Prop where
  size : a.tmps.size = nt
  defers : a.defers = []
  get : ∀ t v, fr t = some v → ∃ v', a.tmps[t]? = some v' ∧ VR m v v'
theorem FR.ext {m m' : M} (x : Ext m m') {nt : Nat} {fr : Nat → Option Value} {a : Act} (f : FR m nt fr a) : FR m' nt fr a :=
  ⟨f.size, f.defers, fun t v hv => let ⟨v', h1, h2⟩ := f.get t v hv; ⟨v', h1, h2.ext x⟩⟩
def GL (gl : Gv) (m : M) : Prop := (∀ g, gl.g g = true → m.dom g ∧ m.loc g = ⟨g, 0, none⟩) ∧ m.wv = gl.wv
theorem GL.ext {m m' : M} (x : Ext m m') {gl : Gv} (g : GL gl m) : GL gl m' := ⟨fun i hi => ⟨x.dom i (g.1 i hi).1, (x.loc i (g.1 i hi).1).trans (g.1 i hi).2⟩, x.wv.trans g.2⟩
def Dom (m : M) (n n' : Nat) (m' : M) : Prop := ∀ i, m'.dom i ↔ m.dom i ∨ (n ≤ i ∧ i < n')
theorem Dom.refl (m : M) (n : Nat) : Dom m n n m := dom_same _ _
theorem Dom.trans {a b c : M} {n k q : Nat} (h : Dom a n k b) (h2 : Dom b k q c) (h3 : n ≤ k) (h4 : k ≤ q) : Dom a n q c := fun i => by
  rw [h2 i, h i, or_assoc]
  apply or_congr_right
  omega
section
variable {P : Program} {F : Nat → Prop} {w0 w : World} {m : M} {gl : Gv}
theorem aeval_sound {nt : Nat} {fr : Nat → Option Value} {a : Act} (f : FR m nt fr a) (g : GL gl m) (x : Operand) (v : Value) (e : aeval gl fr x = some v) : VR m v (a.eval x) := by
  unfold aeval at e
  cases x with
  | tmp t =>
    obtain ⟨v', h1, h2⟩ := f.get t v e
    unfold Act.eval
    simp only [Array.getD_eq_getD_getElem?, h1, Option.getD_some]
    exact h2
  | const u =>
    simp only at e
    split at e
    · rename_i hf
      injection e with e
      subst e
      exact flatV_VR m hf
    · cases e
  | global i =>
    simp only at e
    split at e
    · rename_i hi
      injection e with e
      subst e
      obtain ⟨h1, h2⟩ := g.1 i hi
      have := VR.cell (CR.ptr (m := m) ⟨i, 0, none⟩ h1)
      unfold mv at this
      rw [h2] at this
      exact this
    · cases e
  | func i =>
    injection e with e
    subst e
    exact VR.flat rfl
theorem FR.put {nt : Nat} {fr fr' : Tr Value} {a : Act} (f : FR m nt fr.get a) {dst : Option Tmp} {v v' : Value} (r : VR m v v') (e : aset nt fr dst v = some fr') : FR m nt fr'.get (a.put dst v') := by
  unfold aset at e
  cases dst with
  | none => injection e with e; subst e; exact f
  | some d =>
    simp only at e
    split at e
    · rename_i hd
      injection e with e
      subst e
      refine ⟨by simp [Act.put, f.size], f.defers, fun t u hu => ?_⟩
      rw [Tr.get_set] at hu
      by_cases htd : t = d
      · subst htd
        rw [if_pos rfl] at hu
        injection hu with hu
        subst hu
        exact ⟨v', by simp [Act.put, f.size, hd], r⟩
      · rw [if_neg htd] at hu
        obtain ⟨u', h1, h2⟩ := f.get t u hu
        exact ⟨u', by simp only [Act.put]; rw [Array.getElem?_setIfInBounds_ne (Ne.symm htd)]; exact h1, h2⟩
    · cases e
theorem awanted_sound {nt : Nat} {fr : Nat → Option Value} {a : Act} (f : FR m nt fr a) {ops : Array Oper} {o : Oper} {b : Bool} (e : awanted ops fr o = some b) : Region.wanted o (yielded ops a.tmps) = b := by
  unfold awanted at e
  unfold Region.wanted
  cases hg : o.guard with
  | none => rw [hg] at e; injection e with e
  | some gw =>
    obtain ⟨g, want⟩ := gw
    rw [hg] at e
    simp only at e ⊢
    unfold yielded
    cases hd : (ops[g]?).bind (·.dst) with
    | none => rw [hd] at e; injection e with e
    | some t =>
      rw [hd] at e
      simp only at e
      split at e
      · rename_i c hc
        obtain ⟨v', h1, h2⟩ := f.get t _ hc
        rw [h2.inv_bool] at h1
        injection e with e
        subst e
        simp only [Option.bind_some, h1]
        cases c <;> cases want <;> rfl
      · rename_i vs hc
        obtain ⟨v', h1, h2⟩ := f.get t _ hc
        obtain ⟨vs', rfl, _⟩ := h2.inv_tup
        injection e with e
        subst e
        simp only [Option.bind_some, h1]
        rfl
      · cases e
theorem avals_sound {ρ : Operand → Option Value} {ρ' : Operand → Value} (hρ : ∀ x v, ρ x = some v → VR m v (ρ' x)) : ∀ {l : List Operand} {r : List Value}, avals ρ l = some r → L2 (VR m) r (l.map ρ')
  | [], r, e => by unfold avals at e; injection e with e; subst e; exact .nil
  | x :: l, r, e => by
    unfold avals at e
    replace e := Option.bind_eq_some_iff.1 e
    obtain ⟨v, hv, e⟩ := e
    replace e := Option.bind_eq_some_iff.1 e
    obtain ⟨r', h2, e⟩ := e
    injection e with e
    subst e
    exact .cons (hρ x v hv) (avals_sound hρ h2)
theorem L2.append {R : Value → Value → Prop} {xs ys us vs : List Value} (h : L2 R xs ys) (k : L2 R us vs) : L2 R (xs ++ us) (ys ++ vs) := by
  induction h with
  | nil => exact k
  | cons a _ ih => exact .cons a ih
theorem VR.inv_fn2 {f : FuncId} {fs cs : Array Value} {v' : Value} (r : VR m (.func (.func f) fs cs) v') : ∃ cs', v' = .func (.func f) fs cs' ∧ L2 (VR m) cs.toList cs'.toList := by
  cases r with
  | one r => cases r with
    | c r => cases r with
      | flat h =>
        simp only [flatC, Bool.and_eq_true, Array.isEmpty_iff] at h
        refine ⟨cs, rfl, ?_⟩
        rw [h.2]; exact .nil
      | fn _ _ cs' hs hh =>
        refine ⟨cs', rfl, L2.of_get (by simpa using hs.symm) (fun j v hv => ?_)⟩
        obtain ⟨a, rfl, h2, h3⟩ := hh j v (by simpa using hv)
        exact ⟨_, by simpa using h3, .cell (.ptr a h2)⟩
end
/-- What is promised of a way to answer calls. -/
structure CallOK (P : Program) (gl : Gv) (call : CallF) : Prop where
  mono : ∀ {f : FuncId} {args : List Value} {nx : Nat} {h : Tr AObj} {v : Value} {n' : Nat} {h' : Tr AObj}, call f args nx h = some (v, n', h') → nx ≤ n'
  ok : ∀ {f : FuncId} {args args' : List Value} {nx : Nat} {h : Tr AObj} {v : Value} {n' : Nat} {h' : Tr AObj} {F : Nat → Prop} {w0 w : World} {m : M}, call f args nx h = some (v, n', h') →
    Rel F w0 m h w → GL gl m → L2 (VR m) args args' → (∀ i, nx ≤ i → i < n' → ¬ m.dom i) →
    Calls P f args'.toArray w fun e w' => ∃ m' v', e = .returned v' ∧ Ext m m' ∧ Dom m nx n' m' ∧ VR m' v v' ∧ Rel F w0 m' h' w'
end
end Go.Proofs.YtcccapeaeehjiaaGreatDoor.AM
