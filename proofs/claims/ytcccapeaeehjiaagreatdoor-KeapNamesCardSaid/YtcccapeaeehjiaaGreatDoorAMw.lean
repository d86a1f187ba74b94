/- The quick machine's code and calls. -/
import Derived.Test.YtcccapeaeehjiaaGreatDoorAMv
namespace Go.Proofs.YtcccapeaeehjiaaGreatDoor.AM
noncomputable section
open Go Go.RowKit
set_option linter.unusedVariables false
set_option linter.unusedSimpArgs false
inductive CS where
  | go (c : COp) (d : Option (List D4))
  | gu (t : List D4) (w : Bool) (c : COp) (d : Option (List D4))
  | slow
def okDst (nt0 : Nat) : Option Tmp → Bool
  | none => true
  | some d => decide (d < nt0)
noncomputable def compS (P : Program) (gl : Gv) (nt0 : Nat) (ops : Array Oper) (o : Oper) : CS :=
  if okDst nt0 o.dst then
    match o.guard with
    | none => .go (comp P gl o) (o.dst.map way)
    | some (g, w) => match (ops[g]?).bind (·.dst) with
      | some t => .gu (way t) w (comp P gl o) (o.dst.map way)
      | none => .slow
  else .slow
noncomputable def setd (fr : Tr Value) (d : Option (List D4)) (v : Value) : Tr Value := Option.rec (motive := fun _ => Tr Value) fr (fun d => Tr.setP (some v) fr d) d
noncomputable def fput (fr : Tr Value) (d : Option (List D4)) (r : Value × Nat × Tr AObj) : Option St := Prod.rec (motive := fun _ => Option St) (fun v q => Prod.rec (motive := fun _ => Option St) (fun nx h => some ⟨setd fr d v, nx, h⟩) q) r
noncomputable def frun (P : Program) (gl : Gv) (call : CallF) (C : Ctx) (o : Oper) (c : COp) (d : Option (List D4)) (fr : Tr Value) (nx : Nat) (h : Tr AObj) : Option St :=
  ob (orE (xop P call (getW fr) nx h c) (aop C (aeval gl fr.get) nx h o)) (fput fr d)
noncomputable def wantB (w : Bool) (v : Value) : Option Bool :=
  Value.casesOn (motive_1 := fun _ => Option Bool) v (fun b => some (sel b w (sel w false true))) (fun _ _ => none) (fun _ _ => none) (fun _ _ _ => none) (fun _ => none) (fun _ => none) (fun _ _ _ => none) (fun _ => none) (fun _ => none) (fun _ _ _ => none) none (fun _ _ => none) none (fun _ => none) (fun _ => some false)
noncomputable def fgu (P : Program) (gl : Gv) (call : CallF) (C : Ctx) (o : Oper) (t : List D4) (w : Bool) (c : COp) (d : Option (List D4)) (fr : Tr Value) (nx : Nat) (h : Tr AObj) : Option St :=
  ob (fr.getP t) fun v => ob (wantB w v) fun b => sel b (frun P gl call C o c d fr nx h) (some ⟨setd fr d undef, nx, h⟩)
noncomputable def onSt {β : Type} (s : St) (k : Tr Value → Nat → Tr AObj → β) : β := St.rec (motive := fun _ => β) k s
noncomputable def fstep (P : Program) (gl : Gv) (nt0 : Nat) (call : CallF) (C : Ctx) (ops : Array Oper) (o : Oper) (s : St) : Option St :=
  CS.rec (motive := fun _ => Option St) (fun c d => onSt s (frun P gl call C o c d)) (fun t w c d => onSt s (fgu P gl call C o t w c d)) (astep C ops o s) (compS P gl nt0 ops o)
section
variable {P : Program} {gl : Gv} {nt0 : Nat} {call : CallF} {C : Ctx}
structure Fits (P : Program) (gl : Gv) (nt0 : Nat) (call : CallF) (C : Ctx) : Prop where
  p : C.P = P
  g : C.gl = gl
  c : C.call = call
  n : nt0 ≤ C.nt
theorem fput_ok {fr : Tr Value} {d : Option Nat} {r : Value × Nat × Tr AObj} {s : St} (hd : ∀ t, d = some t → t < C.nt) (e : fput fr (d.map way) r = some s) : ((aset C.nt fr d r.1).bind fun fr => some (⟨fr, r.2.1, r.2.2⟩ : St)) = some s := by
  obtain ⟨v, n, h⟩ := r
  have e : some (⟨setd fr (d.map way) v, n, h⟩ : St) = some s := e
  rw [← e]
  cases d with
  | none => rfl
  | some t =>
    unfold aset
    simp only [if_pos (hd t rfl), Option.bind_some]
    rfl
theorem frun_ok (F : Fits P gl nt0 call C) {o : Oper} {d : Option Nat} {fr : Tr Value} {nx : Nat} {h : Tr AObj} {s : St} (hd : ∀ t, d = some t → t < C.nt) (e : frun P gl call C o (comp P gl o) (d.map way) fr nx h = some s) :
    ((aop C (aeval C.gl fr.get) nx h o).bind fun r => (aset C.nt fr d r.1).bind fun fr => some (⟨fr, r.2.1, r.2.2⟩ : St)) = some s := by
  obtain ⟨rfl, rfl, rfl, _⟩ := F
  obtain ⟨r, h1, h2⟩ := ob_some e
  have h3 : aop C (aeval C.gl fr.get) nx h o = some r := by
    rcases orE_some h1 with h1 | h1
    · exact xop_ok (fun x => getW_of _ _ x) h1
    · exact h1
  rw [h3, Option.bind_some]
  exact fput_ok hd h2
theorem fstep_ok (F : Fits P gl nt0 call C) {ops : Array Oper} {o : Oper} {s s' : St} (e : fstep P gl nt0 call C ops o s = some s') : astep C ops o s = some s' := by
  have F0 := F
  obtain ⟨rfl, rfl, rfl, hn⟩ := F
  unfold fstep compS at e
  split at e
  · rename_i hc
    have hd : ∀ t, o.dst = some t → t < C.nt := by
      intro t ht
      rw [ht] at hc
      have hc : decide (t < nt0) = true := hc
      rw [decide_eq_true_eq] at hc
      exact Nat.lt_of_lt_of_le hc hn
    split at e
    · rename_i hg
      have e : frun C.P C.gl C.call C o (comp C.P C.gl o) (o.dst.map way) s.fr s.nx s.h = some s' := e
      unfold astep awanted
      rw [hg]
      exact frun_ok F0 hd e
    · rename_i g w hg
      split at e
      · rename_i t ht
        have e : fgu C.P C.gl C.call C o (way t) w (comp C.P C.gl o) (o.dst.map way) s.fr s.nx s.h = some s' := e
        obtain ⟨v, h1, e⟩ := ob_some e
        obtain ⟨b, h2, e⟩ := ob_some e
        have h1 : s.fr.get t = some v := h1
        rw [sel_eq] at e
        have hw : awanted ops s.fr.get o = some b := by
          unfold awanted
          rw [hg]
          simp only [ht, h1]
          cases v with
          | bool q =>
            injection h2 with h2
            subst h2
            cases q <;> cases w <;> rfl
          | tuple vs =>
            injection h2 with h2
            subst h2
            rfl
          | _ => cases h2
        unfold astep
        rw [hw]
        cases b with
        | true => exact frun_ok F0 hd e
        | false =>
          simp only [Bool.false_eq_true, if_false, Option.some.injEq] at e
          subst e
          exact fput_ok (r := (undef, s.nx, s.h)) hd rfl
      · exact e
  · exact e
noncomputable def fops (P : Program) (gl : Gv) (nt0 : Nat) (call : CallF) (C : Ctx) (ops : Array Oper) (l : List Oper) : St → Option St :=
  List.rec (motive := fun _ => St → Option St) (fun s => some s) (fun o _ f s => ob (fstep P gl nt0 call C ops o s) f) l
theorem fops_ok (F : Fits P gl nt0 call C) {ops : Array Oper} : ∀ (l : List Oper) {s s' : St}, fops P gl nt0 call C ops l s = some s' → aops C ops l s = some s'
  | [], s, s', e => e
  | o :: l, s, s', e => by
    obtain ⟨q, h1, h2⟩ := ob_some (show ob (fstep P gl nt0 call C ops o s) (fops P gl nt0 call C ops l) = some s' from e)
    rw [aops_cons, fstep_ok F h1, Option.bind_some]
    exact fops_ok F l h2
/-! ### in any order -/
noncomputable def fop (P : Program) (gl : Gv) (call : CallF) (C : Ctx) (fr : Nat → Option Value) (nx : Nat) (h : Tr AObj) (o : Oper) : Res := orE (xop P call (getO fr) nx h (comp P gl o)) (aop C (aeval gl fr) nx h o)
theorem fop_ok (F : Fits P gl nt0 call C) {fr : Nat → Option Value} {nx : Nat} {h : Tr AObj} {o : Oper} {r : Value × Nat × Tr AObj} (e : fop P gl call C fr nx h o = some r) : aop C (aeval C.gl fr) nx h o = some r := by
  obtain ⟨rfl, rfl, rfl, _⟩ := F
  rcases orE_some e with h1 | h1
  · exact xop_ok (fun x => getO_of _ _ x) h1
  · exact h1
noncomputable def dW (P : Program) (gl : Gv) (call : CallF) (C : Ctx) (ops : Array Oper) (p : Nat × Oper) (f : St → List (Nat × Nat × Nat) → Option St) (s : St) (rs : List (Nat × Nat × Nat)) : Option St :=
  ob (fop P gl call C (restr ops p.2 s.fr) s.nx s.h p.2) fun r => ob (aset C.nt s.fr p.2.dst r.1) fun fr => f ⟨fr, r.2.1, r.2.2⟩ ((p.1, s.nx, r.2.1) :: rs)
noncomputable def dQ (P : Program) (gl : Gv) (call : CallF) (C : Ctx) (ops : Array Oper) (p : Nat × Oper) (f : St → List (Nat × Nat × Nat) → Option St) (s : St) (rs : List (Nat × Nat × Nat)) : Option St :=
  ob (fop P gl call C (restr ops p.2 s.fr) s.nx (frz .leaf) p.2) fun r => ob (aset C.nt s.fr p.2.dst r.1) fun fr => gd (Nat.beq r.2.1 s.nx) (f ⟨fr, s.nx, s.h⟩ rs)
noncomputable def allIn (h : Tr AObj) (T : List Nat) : Bool := List.rec (motive := fun _ => Bool) true (fun i _ r => Option.rec (motive := fun _ => Bool) false (fun _ => r) (h.get i)) T
theorem allIn_ok {h : Tr AObj} : ∀ {T : List Nat}, allIn h T = true → T.all (fun i => (h.get i).isSome) = true
  | [], _ => rfl
  | i :: T, e => by
    have e : Option.rec (motive := fun _ => Bool) false (fun _ => allIn h T) (h.get i) = true := e
    cases hh : h.get i with
    | none => rw [hh] at e; cases e
    | some o =>
      rw [hh] at e
      simp only [List.all_cons, hh, Option.isSome_some, Bool.true_and]
      exact allIn_ok e
noncomputable def dM (P : Program) (gl : Gv) (call : CallF) (C : Ctx) (ops : Array Oper) (B : List Nat) (H : Hints) (p : Nat × Oper) (f : St → List (Nat × Nat × Nat) → Option St) (s : St) (rs : List (Nat × Nat × Nat)) : Option St :=
  gd (allIn (minusH B H p.1 H (minusA B p.1 rs s.h)) (hintOf H p.1)) (ob (fop P gl call C (restr ops p.2 s.fr) s.nx (mixT (minusH B H p.1 H (minusA B p.1 rs s.h)) (hintOf H p.1)) p.2) fun r => ob (aset C.nt s.fr p.2.dst r.1) fun fr => f ⟨fr, r.2.1, putT (addT s.h r.2.2 s.nx (r.2.1 - s.nx)) r.2.2 (hintOf H p.1)⟩ ((p.1, s.nx, r.2.1) :: rs))
noncomputable def d1 (P : Program) (gl : Gv) (call : CallF) (C : Ctx) (ops : Array Oper) (B : List Nat) (E : List (Nat × Oper)) (H : Hints) (p : Nat × Oper) (f : St → List (Nat × Nat × Nat) → Option St) (s : St) (rs : List (Nat × Nat × Nat)) : Option St :=
  ob (awanted ops (restr ops p.2 s.fr) p.2) fun w => sel w (sel (isWop B E p.1 p.2) (dW P gl call C ops p f s rs) (sel (quietOp p.2.op) (dQ P gl call C ops p f s rs) (dM P gl call C ops B H p f s rs))) (ob (aset C.nt s.fr p.2.dst undef) fun fr => f ⟨fr, s.nx, s.h⟩ rs)
noncomputable def dgo2 (P : Program) (gl : Gv) (call : CallF) (C : Ctx) (ops : Array Oper) (B : List Nat) (E : List (Nat × Oper)) (H : Hints) (l : List (Nat × Oper)) : St → List (Nat × Nat × Nat) → Option St :=
  List.rec (motive := fun _ => St → List (Nat × Nat × Nat) → Option St) (fun s _ => some s) (fun p _ f => d1 P gl call C ops B E H p f) l
theorem dgo2_ok (F : Fits P gl nt0 call C) {ops : Array Oper} {B : List Nat} {E : List (Nat × Oper)} {H : Hints} : ∀ (l : List (Nat × Oper)) {s s' : St} {rs : List (Nat × Nat × Nat)}, dgo2 P gl call C ops B E H l s rs = some s' → dgo C ops B E H l s rs = some s'
  | [], s, s', rs, e => e
  | p :: l, s, s', rs, e => by
    have ih := @dgo2_ok F ops B E H l
    obtain ⟨w, h1, e⟩ := ob_some (show ob (awanted ops (restr ops p.2 s.fr) p.2) (fun w => sel w (sel (isWop B E p.1 p.2) (dW P gl call C ops p (dgo2 P gl call C ops B E H l) s rs) (sel (quietOp p.2.op) (dQ P gl call C ops p (dgo2 P gl call C ops B E H l) s rs) (dM P gl call C ops B H p (dgo2 P gl call C ops B E H l) s rs))) (ob (aset C.nt s.fr p.2.dst undef) fun fr => dgo2 P gl call C ops B E H l ⟨fr, s.nx, s.h⟩ rs)) = some s' from e)
    rw [sel_eq] at e
    unfold dgo
    rw [h1]
    cases w with
    | false =>
      simp only [Bool.false_eq_true, if_false] at e ⊢
      obtain ⟨fr, h2, e⟩ := ob_some e
      rw [h2, Option.bind_some]
      exact ih e
    | true =>
      simp only [if_true] at e ⊢
      rw [sel_eq] at e
      split at e
      · rename_i hw
        obtain ⟨r, h2, e⟩ := ob_some (show ob (fop P gl call C (restr ops p.2 s.fr) s.nx s.h p.2) (fun r => ob (aset C.nt s.fr p.2.dst r.1) fun fr => dgo2 P gl call C ops B E H l ⟨fr, r.2.1, r.2.2⟩ ((p.1, s.nx, r.2.1) :: rs)) = some s' from e)
        obtain ⟨fr, h3, e⟩ := ob_some e
        rw [if_pos hw, fop_ok F h2, Option.bind_some, h3, Option.bind_some]
        exact ih e
      · rename_i hw
        rw [if_neg hw]
        rw [sel_eq] at e
        split at e
        · rename_i hq
          obtain ⟨r, h2, e⟩ := ob_some (show ob (fop P gl call C (restr ops p.2 s.fr) s.nx (frz .leaf) p.2) (fun r => ob (aset C.nt s.fr p.2.dst r.1) fun fr => gd (Nat.beq r.2.1 s.nx) (dgo2 P gl call C ops B E H l ⟨fr, s.nx, s.h⟩ rs)) = some s' from e)
          obtain ⟨fr, h3, e⟩ := ob_some e
          obtain ⟨h4, e⟩ := gd_some e
          rw [nbeq, decide_eq_true_eq] at h4
          rw [if_pos hq, fop_ok F h2, Option.bind_some, h3, Option.bind_some, if_pos h4]
          exact ih e
        · rename_i hq
          obtain ⟨h0, e⟩ := gd_some (show gd (allIn (minusH B H p.1 H (minusA B p.1 rs s.h)) (hintOf H p.1)) (ob (fop P gl call C (restr ops p.2 s.fr) s.nx (mixT (minusH B H p.1 H (minusA B p.1 rs s.h)) (hintOf H p.1)) p.2) fun r => ob (aset C.nt s.fr p.2.dst r.1) fun fr => dgo2 P gl call C ops B E H l ⟨fr, r.2.1, putT (addT s.h r.2.2 s.nx (r.2.1 - s.nx)) r.2.2 (hintOf H p.1)⟩ ((p.1, s.nx, r.2.1) :: rs)) = some s' from e)
          obtain ⟨r, h2, e⟩ := ob_some e
          obtain ⟨fr, h3, e⟩ := ob_some e
          rw [if_neg hq, if_pos (allIn_ok h0), fop_ok F h2, Option.bind_some, h3, Option.bind_some]
          exact ih e
def isCallF : Op → Bool
  | .call c => match c.callee with
    | .value _ => true
    | _ => false
  | _ => false
/-- Which blocks are taken: seen without the calls. -/
noncomputable def hset (C : Ctx) (o : Oper) (v : Value) (nx : Nat) (h : Tr AObj) (s : St) : St := Option.rec (motive := fun _ => St) s (fun fr => ⟨fr, nx, h⟩) (aset C.nt s.fr o.dst v)
noncomputable def hnext (P : Program) (gl : Gv) (call : CallF) (C : Ctx) (o : Oper) (s : St) : St :=
  sel (isCallF o.op) s (Option.rec (motive := fun _ => St) s (fun r => hset C o r.1 r.2.1 r.2.2 s) (fop P gl call C s.fr.get s.nx s.h o))
noncomputable def hadd (n0 i : Nat) (T : List Nat) (H : Hints) : Hints := List.casesOn (motive := fun _ => Hints) T H (fun b _ => sel (Nat.ble (Nat.succ b) n0) ((i, [b]) :: H) H)
noncomputable def hstep (P : Program) (gl : Gv) (call : CallF) (C : Ctx) (ops : Array Oper) (B : List Nat) (E : List (Nat × Oper)) (n0 : Nat) (p : Nat × Oper) (f : St → Hints) (s : St) : Hints :=
  sel (Option.rec (motive := fun _ => Bool) true (fun w => w) (awanted ops s.fr.get p.2))
    (hadd n0 p.1 (sel (isWop B E p.1 p.2) [] (takes (aeval gl s.fr.get) p.2)) (f (hnext P gl call C p.2 s)))
    (f (hset C p.2 undef s.nx s.h s))
noncomputable def hgo2 (P : Program) (gl : Gv) (call : CallF) (C : Ctx) (ops : Array Oper) (B : List Nat) (E : List (Nat × Oper)) (n0 : Nat) (l : List (Nat × Oper)) : St → Hints :=
  List.rec (motive := fun _ => St → Hints) (fun _ => []) (fun p _ f s => hstep P gl call C ops B E n0 p f s) l
def takesOp : Op → Bool
  | .store .. => true
  | .call c => match c.callee with
    | .builtin .append => true
    | _ => false
  | _ => false
def hasTake (ops : Array Oper) : Bool := (enumF 0 ops.toList).any fun p => takesOp p.2.op && !isWop (ancL ops) (enumF 0 ops.toList) p.1 p.2
/-- Where no call is skipped the new blocks' numbers are right, too. -/
def anyCall (ops : Array Oper) : Bool := ops.toList.any fun o => isCallF o.op
/-! ### where a call takes what its first argument points to, and others read beside -/
noncomputable def junkL (l : List Value) : Nat → Nat → List Value :=
  List.rec (motive := fun _ => Nat → Nat → List Value) (fun _ _ => []) (fun v _ f off n => Nat.rec (motive := fun _ => List Value) (Nat.rec (motive := fun _ => List Value) (.chan none :: f 0 0) (fun k _ => v :: f 0 k) n) (fun k _ => .chan none :: f k n) off) l
theorem junkL_len : ∀ (l : List Value) (off n : Nat), (junkL l off n).length = l.length
  | [], _, _ => rfl
  | v :: l, 0, 0 => congrArg Nat.succ (junkL_len l 0 0)
  | v :: l, 0, n + 1 => congrArg Nat.succ (junkL_len l 0 n)
  | v :: l, off + 1, n => congrArg Nat.succ (junkL_len l off n)
theorem junkL_get : ∀ (l : List Value) (off n j : Nat) (v : Value), (junkL l off n)[j]? = some v → v = .chan none ∨ l[j]? = some v
  | [], _, _, j, v, e => by cases e
  | x :: l, 0, 0, 0, v, e => .inl (Option.some.inj e).symm
  | x :: l, 0, 0, j + 1, v, e => junkL_get l 0 0 j v e
  | x :: l, 0, n + 1, 0, v, e => .inr e
  | x :: l, 0, n + 1, j + 1, v, e => junkL_get l 0 n j v e
  | x :: l, off + 1, n, 0, v, e => .inl (Option.some.inj e).symm
  | x :: l, off + 1, n, j + 1, v, e => junkL_get l off n j v e
noncomputable def junkBut (off n : Nat) (o : AObj) : AObj := ⟨junkL o.cells off n, o.elem, o.own, o.es⟩
theorem junkBut_wk (off n : Nat) (o : AObj) : Wk (junkBut off n o) o := ⟨rfl, rfl, rfl, junkL_len _ _ _, fun j v h => junkL_get _ _ _ j v h⟩
def hinted (H : Hints) (b : Nat) : Bool := H.any fun q => q.2.contains b
def isLoadF : Op → Bool
  | .load .. => true
  | _ => false
/-- The block that is read, and where: what is told of it. -/
noncomputable def seen (P : Program) (H : Hints) (h : Tr AObj) (ρ : Operand → Option Value) (o : Op) : Option (Tr AObj) := match o with
  | .load t a => match ρ a with
    | some (.pointer (some a)) => ob (h.get a.block) fun o => ob (P.info? t) fun i => some (Tr.set .leaf a.block (some (sel (hinted H a.block) (junkBut a.off i.size o) o)))
    | _ => none
  | _ => none
theorem seen_spec {P : Program} {H : Hints} {h G : Tr AObj} {ρ : Operand → Option Value} {o : Op} (e : seen P H h ρ o = some G) : ∀ i o, G.get i = some o → ∃ o', h.get i = some o' ∧ Wk o o' := by
  unfold seen at e
  split at e
  · split at e
    · obtain ⟨o1, h1, e⟩ := ob_some e
      obtain ⟨inf, h2, e⟩ := ob_some e
      injection e with e
      subst e
      intro i o ho
      rw [Tr.get_set] at ho
      split at ho
      · rename_i hi
        injection ho with ho
        rw [sel_eq] at ho
        refine ⟨o1, by rw [hi]; exact h1, ?_⟩
        rw [← ho]
        split
        · exact junkBut_wk _ _ _
        · exact Wk.refl _
      · rw [leaf_get] at ho; cases ho
    · cases e
  · cases e
def eqC : Value → Value → Bool
  | .bool a, .bool b => a == b
  | .int k n, .int l q => decide (k = l) && decide (n = q)
  | .string a, .string b => decide (a = b)
  | .pointer none, .pointer none => true
  | .pointer (some a), .pointer (some b) => decide (a = b)
  | .slice none n c, .slice none q d => decide (n = q) && decide (c = d)
  | .slice (some a) n c, .slice (some b) q d => decide (a = b) && decide (n = q) && decide (c = d)
  | .nilIface, .nilIface => true
  | .nilFunc, .nilFunc => true
  | .chan none, .chan none => true
  | _, _ => false
theorem eqC_eq {a b : Value} (h : eqC a b = true) : a = b := by
  unfold eqC at h
  split at h <;> first | rfl | simp_all
def isJunk : Value → Bool
  | .chan none => true
  | _ => false
def wkC : List Value → List Value → Bool
  | [], [] => true
  | v :: l, v' :: l' => (isJunk v || eqC v v') && wkC l l'
  | _, _ => false
theorem wkC_spec : ∀ {l l' : List Value}, wkC l l' = true → l.length = l'.length ∧ ∀ (j : Nat) (v : Value), l[j]? = some v → v = .chan none ∨ l'[j]? = some v
  | [], [], _ => ⟨rfl, fun j v e => by cases e⟩
  | [], _ :: _, h => by cases h
  | _ :: _, [], h => by cases h
  | v :: l, v' :: l', h => by
    unfold wkC at h
    simp only [Bool.and_eq_true, Bool.or_eq_true] at h
    obtain ⟨h1, h2⟩ := wkC_spec h.2
    refine ⟨congrArg Nat.succ h1, fun j u hu => ?_⟩
    cases j with
    | zero =>
      simp only [List.getElem?_cons_zero, Option.some.injEq] at hu ⊢
      subst hu
      rcases h.1 with e | e
      · left; unfold isJunk at e; split at e
        · rfl
        · cases e
      · right; exact (eqC_eq e).symm
    | succ j => exact h2 j u (by simpa using hu)
def wkO (o : AObj) : Option AObj → Bool
  | none => false
  | some o' => Nat.beq o.elem o'.elem && (o.own == o'.own) && Nat.beq o.es o'.es && wkC o.cells o'.cells
theorem wkO_spec {o : AObj} {x : Option AObj} (h : wkO o x = true) : ∃ o', x = some o' ∧ Wk o o' := by
  unfold wkO at h
  split at h
  · cases h
  · rename_i o'
    simp only [Bool.and_eq_true, nbeq, decide_eq_true_eq, beq_iff_eq] at h
    obtain ⟨h1, h2⟩ := wkC_spec h.2
    exact ⟨o', rfl, h.1.1.1, h.1.1.2, h.1.2, h1, h2⟩
noncomputable def awayB (e d : Ef) (i : Nat) : Bool := Option.rec (motive := fun _ => Bool) true (fun o => e.T.isEmpty && (wkO o (d.G.get i) && wkO o (ownO (d.G'.get i)))) (e.G.get i)
theorem awayB_spec {e d : Ef} {i : Nat} (h : awayB e d i = true) : Away e d i := by
  unfold awayB at h
  cases hg : e.G.get i with
  | none => exact .inl hg
  | some o =>
    rw [hg] at h
    simp only [Bool.and_eq_true, List.isEmpty_iff] at h
    obtain ⟨o1, q1, q2⟩ := wkO_spec h.2.1
    obtain ⟨o2, q3, q4⟩ := wkO_spec h.2.2
    exact .inr ⟨h.1, o, o1, o2, hg, q1, q2, q3, q4⟩
noncomputable def softB (B : List Nat) (L : List (Nat × Ef)) : Bool := L.all fun y => y.2.T.isEmpty || L.all fun x => x.2.isW || y.2.isW || !unB B x.1 y.1 || y.2.T.all (awayB x.2 y.2)
theorem softB_spec {B : List Nat} {L : List (Nat × Ef)} (h : softB B L = true) : Soft B L := by
  intro x hx y hy w1 w2 hu i hi
  unfold softB at h
  have h1 := List.all_eq_true.1 h y hy
  simp only [Bool.or_eq_true, List.isEmpty_iff] at h1
  rcases h1 with h1 | h1
  · rw [h1] at hi; cases hi
  · have h2 := List.all_eq_true.1 h1 x hx
    rw [w1, w2, hu] at h2
    simp only [Bool.not_true, Bool.or_self, Bool.false_or] at h2
    exact awayB_spec (List.all_eq_true.1 h2 i hi)
abbrev LogR := Option (St × List (Nat × Ef))
noncomputable def lcons (i : Nat) (e : Ef) (r : LogR) : LogR := ob r fun q => some (q.1, (i, e) :: q.2)
theorem lcons_some {i : Nat} {e : Ef} {r : LogR} {s : St} {L : List (Nat × Ef)} (h : lcons i e r = some (s, L)) : ∃ L', r = some (s, L') ∧ L = (i, e) :: L' := by
  obtain ⟨⟨s', L'⟩, h1, h2⟩ := ob_some h
  simp only [Option.some.injEq, Prod.mk.injEq] at h2
  obtain ⟨rfl, rfl⟩ := h2
  exact ⟨L', h1, rfl⟩
noncomputable def lW (P : Program) (gl : Gv) (call : CallF) (C : Ctx) (ops : Array Oper) (p : Nat × Oper) (f : St → List (Nat × Nat × Nat) → LogR) (s : St) (rs : List (Nat × Nat × Nat)) : LogR :=
  ob (fop P gl call C (restr ops p.2 s.fr) s.nx s.h p.2) fun r => ob (aset C.nt s.fr p.2.dst r.1) fun fr => lcons p.1 ⟨p.2, restr ops p.2 s.fr, true, r.1, true, s.h, r.2.2, s.nx, r.2.1, []⟩ (f ⟨fr, r.2.1, r.2.2⟩ ((p.1, s.nx, r.2.1) :: rs))
noncomputable def lQ (P : Program) (gl : Gv) (call : CallF) (C : Ctx) (ops : Array Oper) (p : Nat × Oper) (f : St → List (Nat × Nat × Nat) → LogR) (s : St) (rs : List (Nat × Nat × Nat)) : LogR :=
  ob (fop P gl call C (restr ops p.2 s.fr) s.nx (frz .leaf) p.2) fun r => ob (aset C.nt s.fr p.2.dst r.1) fun fr => gd (Nat.beq r.2.1 s.nx) (lcons p.1 ⟨p.2, restr ops p.2 s.fr, true, r.1, false, .leaf, r.2.2, s.nx, s.nx, []⟩ (f ⟨fr, s.nx, s.h⟩ rs))
noncomputable def lL (P : Program) (gl : Gv) (call : CallF) (C : Ctx) (ops : Array Oper) (B : List Nat) (H : Hints) (p : Nat × Oper) (f : St → List (Nat × Nat × Nat) → LogR) (s : St) (rs : List (Nat × Nat × Nat)) : LogR :=
  ob (seen P H (minusA B p.1 rs s.h) (aeval gl (restr ops p.2 s.fr)) p.2.op) fun G => ob (fop P gl call C (restr ops p.2 s.fr) s.nx (mixT G []) p.2) fun r => ob (aset C.nt s.fr p.2.dst r.1) fun fr => gd (Nat.beq r.2.1 s.nx) (lcons p.1 ⟨p.2, restr ops p.2 s.fr, true, r.1, false, G, r.2.2, s.nx, s.nx, []⟩ (f ⟨fr, s.nx, s.h⟩ rs))
noncomputable def lM (P : Program) (gl : Gv) (call : CallF) (C : Ctx) (ops : Array Oper) (B : List Nat) (H : Hints) (p : Nat × Oper) (f : St → List (Nat × Nat × Nat) → LogR) (s : St) (rs : List (Nat × Nat × Nat)) : LogR :=
  gd (allIn (minusH B H p.1 H (minusA B p.1 rs s.h)) (hintOf H p.1)) (ob (fop P gl call C (restr ops p.2 s.fr) s.nx (mixT (minusH B H p.1 H (minusA B p.1 rs s.h)) (hintOf H p.1)) p.2) fun r => ob (aset C.nt s.fr p.2.dst r.1) fun fr => lcons p.1 ⟨p.2, restr ops p.2 s.fr, true, r.1, false, minusH B H p.1 H (minusA B p.1 rs s.h), r.2.2, s.nx, r.2.1, hintOf H p.1⟩ (f ⟨fr, r.2.1, putT (addT s.h r.2.2 s.nx (r.2.1 - s.nx)) r.2.2 (hintOf H p.1)⟩ ((p.1, s.nx, r.2.1) :: rs)))
noncomputable def l1 (P : Program) (gl : Gv) (call : CallF) (C : Ctx) (ops : Array Oper) (B : List Nat) (E : List (Nat × Oper)) (H : Hints) (p : Nat × Oper) (f : St → List (Nat × Nat × Nat) → LogR) (s : St) (rs : List (Nat × Nat × Nat)) : LogR :=
  ob (awanted ops (restr ops p.2 s.fr) p.2) fun w => sel w (sel (isWop B E p.1 p.2) (lW P gl call C ops p f s rs) (sel (quietOp p.2.op) (lQ P gl call C ops p f s rs) (sel (isLoadF p.2.op) (lL P gl call C ops B H p f s rs) (lM P gl call C ops B H p f s rs)))) (ob (aset C.nt s.fr p.2.dst undef) fun fr => lcons p.1 ⟨p.2, restr ops p.2 s.fr, false, undef, false, .leaf, .leaf, s.nx, s.nx, []⟩ (f ⟨fr, s.nx, s.h⟩ rs))
noncomputable def dgoL (P : Program) (gl : Gv) (call : CallF) (C : Ctx) (ops : Array Oper) (B : List Nat) (E : List (Nat × Oper)) (H : Hints) (l : List (Nat × Oper)) : St → List (Nat × Nat × Nat) → LogR :=
  List.rec (motive := fun _ => St → List (Nat × Nat × Nat) → LogR) (fun s _ => some (s, [])) (fun p _ f => l1 P gl call C ops B E H p f) l
theorem dgoL_ran (F : Fits P gl nt0 call C) (hc : CallOK C.P C.gl C.call) {ops : Array Oper} {B : List Nat} {E : List (Nat × Oper)} {H : Hints} : ∀ (l : List (Nat × Oper)) (s s' : St) (rs : List (Nat × Nat × Nat)) (L : List (Nat × Ef)), dgoL P gl call C ops B E H l s rs = some (s', L) → Ran0 C ops B E l s s' rs L
  | [], s, s', rs, L, e => by
    have e : some (s, ([] : List (Nat × Ef))) = some (s', L) := e
    simp only [Option.some.injEq, Prod.mk.injEq] at e
    obtain ⟨rfl, rfl⟩ := e
    exact ⟨rfl, fun x hx => (by cases hx), trivial, rfl, Nat.le_refl _, fun x hx => (by cases hx), fun x hx => (by cases hx), .nil, fun i => ⟨fun ⟨x, hx, _⟩ => (by cases hx), fun h => (by omega)⟩, fun x hx => (by cases hx), fun x hx => (by cases hx), fun x hx => (by cases hx), .nil⟩
  | p :: l, s, s', rs, L, e => by
    have ih := @dgoL_ran F hc ops B E H l
    obtain ⟨w, hw, e⟩ := ob_some (show ob (awanted ops (restr ops p.2 s.fr) p.2) (fun w => sel w (sel (isWop B E p.1 p.2) (lW P gl call C ops p (dgoL P gl call C ops B E H l) s rs) (sel (quietOp p.2.op) (lQ P gl call C ops p (dgoL P gl call C ops B E H l) s rs) (sel (isLoadF p.2.op) (lL P gl call C ops B H p (dgoL P gl call C ops B E H l) s rs) (lM P gl call C ops B H p (dgoL P gl call C ops B E H l) s rs)))) (ob (aset C.nt s.fr p.2.dst undef) fun fr => lcons p.1 ⟨p.2, restr ops p.2 s.fr, false, undef, false, .leaf, .leaf, s.nx, s.nx, []⟩ (dgoL P gl call C ops B E H l ⟨fr, s.nx, s.h⟩ rs))) = some (s', L) from e)
    rw [sel_eq] at e
    cases w with
    | false =>
      simp only [Bool.false_eq_true, if_false] at e
      obtain ⟨fr, hfr, e⟩ := ob_some e
      obtain ⟨L', e2, rfl⟩ := lcons_some e
      have T := ih _ _ _ _ e2
      obtain ⟨u1, u2⟩ := aset_spec hfr
      have hqt : (⟨p.2, restr ops p.2 s.fr, false, undef, false, .leaf, .leaf, s.nx, s.nx, []⟩ : Ef).quiet := ⟨rfl, rfl, rfl, rfl⟩
      refine T.cons ⟨p.2, restr ops p.2 s.fr, false, undef, false, .leaf, .leaf, s.nx, s.nx, []⟩ rfl ⟨fun t v h => (restr_spec h).1, hw, u2, Nat.le_refl _, fun h => (by cases h), fun i hi => (by cases hi), fun _ => ⟨rfl, hqt⟩⟩
        ⟨fun t v h => (restr_spec h).2, fun h => (by cases h), fun _ i o hi => (by rw [leaf_get] at hi; cases hi)⟩ ?_ rfl rfl (fun h => (by cases h)) (fun _ => hqt) (fun _ r _ _ k _ _ => leaf_get k) (fun r h => h) (fun h => absurd h (Nat.lt_irrefl _))
      unfold Ef.eff
      rw [quiet_heap hqt]
      simp only [u1]
    | true =>
      simp only [if_true] at e
      rw [sel_eq] at e
      split at e
      · rename_i hW
        obtain ⟨⟨v, n', G'⟩, hr, e⟩ := ob_some (show ob (fop P gl call C (restr ops p.2 s.fr) s.nx s.h p.2) (fun r => ob (aset C.nt s.fr p.2.dst r.1) fun fr => lcons p.1 ⟨p.2, restr ops p.2 s.fr, true, r.1, true, s.h, r.2.2, s.nx, r.2.1, []⟩ (dgoL P gl call C ops B E H l ⟨fr, r.2.1, r.2.2⟩ ((p.1, s.nx, r.2.1) :: rs))) = some (s', L) from e)
        obtain ⟨fr, hfr, e⟩ := ob_some e
        obtain ⟨L', e2, rfl⟩ := lcons_some e
        have T := ih _ _ _ _ e2
        replace hr := fop_ok F hr
        obtain ⟨u1, u2⟩ := aset_spec hfr
        refine T.cons ⟨p.2, restr ops p.2 s.fr, true, v, true, s.h, G', s.nx, n', []⟩ rfl ⟨fun t v h => (restr_spec h).1, hw, u2, aop_mono hc hr, fun _ => hr, fun i hi => (by cases hi), fun h => (by cases h)⟩
          ⟨fun t v h => (restr_spec h).2, fun _ => rfl, fun h => (by cases h)⟩ ?_ rfl rfl (fun _ => hW) (fun hq => ?_) (fun h => (by cases h)) (fun r h => List.mem_cons_of_mem _ h) (fun _ => List.mem_cons_self)
        · unfold Ef.eff Ef.heap
          simp only [u1, if_true]
        · exfalso
          unfold isWop at hW
          rw [hq] at hW
          simp at hW
      · rename_i hW
        rw [sel_eq] at e
        split at e
        · rename_i hq
          obtain ⟨⟨v, n', G'⟩, hr, e⟩ := ob_some (show ob (fop P gl call C (restr ops p.2 s.fr) s.nx (frz .leaf) p.2) (fun r => ob (aset C.nt s.fr p.2.dst r.1) fun fr => gd (Nat.beq r.2.1 s.nx) (lcons p.1 ⟨p.2, restr ops p.2 s.fr, true, r.1, false, .leaf, r.2.2, s.nx, s.nx, []⟩ (dgoL P gl call C ops B E H l ⟨fr, s.nx, s.h⟩ rs))) = some (s', L) from e)
          obtain ⟨fr, hfr, e⟩ := ob_some e
          obtain ⟨hn, e⟩ := gd_some e
          obtain ⟨L', e2, rfl⟩ := lcons_some e
          rw [nbeq, decide_eq_true_eq] at hn
          simp only at hn
          subst hn
          have T := ih _ _ _ _ e2
          replace hr := fop_ok F hr
          obtain ⟨u1, u2⟩ := aset_spec hfr
          have hqt : (⟨p.2, restr ops p.2 s.fr, true, v, false, .leaf, G', s.nx, s.nx, []⟩ : Ef).quiet := ⟨rfl, rfl, rfl, rfl⟩
          refine T.cons ⟨p.2, restr ops p.2 s.fr, true, v, false, .leaf, G', s.nx, s.nx, []⟩ rfl ⟨fun t v h => (restr_spec h).1, hw, u2, Nat.le_refl _, fun _ => hr, fun i hi => (by cases hi), fun h => (by cases h)⟩
            ⟨fun t v h => (restr_spec h).2, fun h => (by cases h), fun _ i o hi => (by rw [leaf_get] at hi; cases hi)⟩ ?_ rfl rfl (fun h => (by cases h)) (fun _ => hqt) (fun _ r _ _ k _ _ => leaf_get k) (fun r h => h) (fun h => absurd h (Nat.lt_irrefl _))
          unfold Ef.eff
          rw [quiet_heap hqt]
          simp only [u1]
        · rename_i hq
          rw [sel_eq] at e
          split at e
          · rename_i hld
            obtain ⟨G, hG, e⟩ := ob_some (show ob (seen P H (minusA B p.1 rs s.h) (aeval gl (restr ops p.2 s.fr)) p.2.op) (fun G => ob (fop P gl call C (restr ops p.2 s.fr) s.nx (mixT G []) p.2) fun r => ob (aset C.nt s.fr p.2.dst r.1) fun fr => gd (Nat.beq r.2.1 s.nx) (lcons p.1 ⟨p.2, restr ops p.2 s.fr, true, r.1, false, G, r.2.2, s.nx, s.nx, []⟩ (dgoL P gl call C ops B E H l ⟨fr, s.nx, s.h⟩ rs))) = some (s', L) from e)
            obtain ⟨⟨v, n', G'⟩, hr, e⟩ := ob_some e
            obtain ⟨fr, hfr, e⟩ := ob_some e
            obtain ⟨hn, e⟩ := gd_some e
            obtain ⟨L', e2, rfl⟩ := lcons_some e
            rw [nbeq, decide_eq_true_eq] at hn
            simp only at hn
            subst hn
            have T := ih _ _ _ _ e2
            replace hr := fop_ok F hr
            obtain ⟨u1, u2⟩ := aset_spec hfr
            have hs := seen_spec hG
            refine T.cons ⟨p.2, restr ops p.2 s.fr, true, v, false, G, G', s.nx, s.nx, []⟩ rfl ⟨fun t v h => (restr_spec h).1, hw, u2, Nat.le_refl _, fun _ => hr, fun i hi => (by cases hi), fun h => (by cases h)⟩
              ⟨fun t v h => (restr_spec h).2, fun h => (by cases h), fun _ i o hi => ?_⟩ ?_ rfl rfl (fun h => (by cases h)) (fun h => absurd h hq) (fun _ r hr hn k h1 h2 => ?_) (fun r h => h) (fun h => absurd h (Nat.lt_irrefl _))
            · obtain ⟨o', q1, q2⟩ := hs i o hi
              exact ⟨o', (get_minusA B p.1 rs s.h i o' q1).1, q2⟩
            · unfold Ef.eff Ef.heap
              simp only [u1, Bool.false_eq_true, if_false]
              congr 1
              rw [heapT_nil]
              funext i
              rw [addN_out (by omega)]
            · cases hg : G.get k with
              | none => rfl
              | some o =>
                obtain ⟨o', q1, _⟩ := hs k o hg
                exact absurd ⟨h1, h2⟩ ((get_minusA B p.1 rs s.h k o' q1).2 r hr hn)
          · obtain ⟨hall, e⟩ := gd_some (show gd (allIn (minusH B H p.1 H (minusA B p.1 rs s.h)) (hintOf H p.1)) (ob (fop P gl call C (restr ops p.2 s.fr) s.nx (mixT (minusH B H p.1 H (minusA B p.1 rs s.h)) (hintOf H p.1)) p.2) fun r => ob (aset C.nt s.fr p.2.dst r.1) fun fr => lcons p.1 ⟨p.2, restr ops p.2 s.fr, true, r.1, false, minusH B H p.1 H (minusA B p.1 rs s.h), r.2.2, s.nx, r.2.1, hintOf H p.1⟩ (dgoL P gl call C ops B E H l ⟨fr, r.2.1, putT (addT s.h r.2.2 s.nx (r.2.1 - s.nx)) r.2.2 (hintOf H p.1)⟩ ((p.1, s.nx, r.2.1) :: rs))) = some (s', L) from e)
            obtain ⟨⟨v, n', G'⟩, hr, e⟩ := ob_some e
            obtain ⟨fr, hfr, e⟩ := ob_some e
            obtain ⟨L', e2, rfl⟩ := lcons_some e
            have T := ih _ _ _ _ e2
            replace hr := fop_ok F hr
            replace hall := allIn_ok hall
            obtain ⟨u1, u2⟩ := aset_spec hfr
            have hle := aop_mono hc hr
            have hG : ∀ i o, (minusH B H p.1 H (minusA B p.1 rs s.h)).get i = some o → (minusA B p.1 rs s.h).get i = some o := fun i o hi => (get_minusH H _ i o hi).1
            refine T.cons ⟨p.2, restr ops p.2 s.fr, true, v, false, minusH B H p.1 H (minusA B p.1 rs s.h), G', s.nx, n', hintOf H p.1⟩ rfl ⟨fun t v h => (restr_spec h).1, hw, u2, hle, fun _ => hr, fun i hi hn => ?_, fun h => (by cases h)⟩
              ⟨fun t v h => (restr_spec h).2, fun h => (by cases h), fun _ i o hi => ⟨o, (get_minusA B p.1 rs s.h i o (hG i o hi)).1, Wk.refl o⟩⟩ ?_ rfl rfl (fun h => (by cases h)) (fun h => absurd h hq) (fun _ r hr hn k h1 h2 => ?_) (fun r h => List.mem_cons_of_mem _ h) (fun _ => List.mem_cons_self)
            · have := List.all_eq_true.1 hall i hi
              change (minusH B H p.1 H (minusA B p.1 rs s.h)).get i = none at hn
              rw [hn] at this; cases this
            · unfold Ef.eff Ef.heap
              simp only [u1, Bool.false_eq_true, if_false]
              congr 1
              funext i
              rw [get_putT]
              unfold heapT
              rw [get_addT, Nat.add_sub_cancel' hle]
            · cases hg : (minusH B H p.1 H (minusA B p.1 rs s.h)).get k with
              | none => rfl
              | some o => exact absurd ⟨h1, h2⟩ ((get_minusA B p.1 rs s.h k o (hG k o hg)).2 r hr hn)
/-- A call takes what its first argument points to. -/
def takesL (ρ : Operand → Option Value) (o : Oper) : List Nat := match takes ρ o with
  | [] => match o.op with
    | .call c => match c.callee with
      | .value _ => match c.args.toList with
        | x :: _ => match ρ x with
          | some (.pointer (some a)) => [a.block]
          | _ => []
        | _ => []
      | _ => []
    | _ => []
  | T => T
noncomputable def hstepL (P : Program) (gl : Gv) (call : CallF) (C : Ctx) (ops : Array Oper) (B : List Nat) (E : List (Nat × Oper)) (n0 : Nat) (p : Nat × Oper) (f : St → Hints) (s : St) : Hints :=
  sel (Option.rec (motive := fun _ => Bool) true (fun w => w) (awanted ops s.fr.get p.2))
    (hadd n0 p.1 (sel (isWop B E p.1 p.2) [] (takesL (aeval gl s.fr.get) p.2)) (f (hnext P gl call C p.2 s)))
    (f (hset C p.2 undef s.nx s.h s))
noncomputable def hgoL (P : Program) (gl : Gv) (call : CallF) (C : Ctx) (ops : Array Oper) (B : List Nat) (E : List (Nat × Oper)) (n0 : Nat) (l : List (Nat × Oper)) : St → Hints :=
  List.rec (motive := fun _ => St → Hints) (fun _ => []) (fun p _ f s => hstepL P gl call C ops B E n0 p f s) l
def lmode (ops : Array Oper) : Bool := ((enumF 0 ops.toList).any fun p => isLoadF p.2.op && !isWop (ancL ops) (enumF 0 ops.toList) p.1 p.2) && (enumF 0 ops.toList).any fun p => isCallF p.2.op && !isWop (ancL ops) (enumF 0 ops.toList) p.1 p.2
noncomputable def adrawL (P : Program) (gl : Gv) (call : CallF) (C : Ctx) (ops : Array Oper) (s : St) : Option St :=
  ob (dgoL P gl call C ops (ancL ops) (enumF 0 ops.toList) (hgoL P gl call C ops (ancL ops) (enumF 0 ops.toList) s.nx (enumF 0 ops.toList) s) (enumF 0 ops.toList) s []) fun q => gd (softB (ancL ops) q.2) (some q.1)
noncomputable def adraw2 (P : Program) (gl : Gv) (call : CallF) (C : Ctx) (ops : Array Oper) (s : St) : Option St :=
  gd (staticOk ops) (sel (lmode ops) (adrawL P gl call C ops s) (sel (hasTake ops)
    (dgo2 P gl call C ops (ancL ops) (enumF 0 ops.toList) (hgo2 P gl call C ops (ancL ops) (enumF 0 ops.toList) (sel (anyCall ops) s.nx 1000000000) (enumF 0 ops.toList) s) (enumF 0 ops.toList) s [])
    (dgo2 P gl call C ops (ancL ops) (enumF 0 ops.toList) [] (enumF 0 ops.toList) s [])))
theorem adraw2_ran (F : Fits P gl nt0 call C) (hc : CallOK C.P C.gl C.call) {ops : Array Oper} {s s' : St} (e : adraw2 P gl call C ops s = some s') : staticOk ops = true ∧ ∃ L, Ran0 C ops (ancL ops) (enumF 0 ops.toList) (enumF 0 ops.toList) s s' [] L ∧ Soft (ancL ops) L := by
  obtain ⟨h1, e⟩ := gd_some e
  refine ⟨h1, ?_⟩
  rw [sel_eq] at e
  split at e
  · obtain ⟨⟨s1, L⟩, h2, e⟩ := ob_some e
    obtain ⟨h3, e⟩ := gd_some e
    injection e with e
    simp only at e h3
    subst e
    exact ⟨L, dgoL_ran F hc _ _ _ _ _ h2, softB_spec h3⟩
  · rw [sel_eq] at e
    split at e
    · obtain ⟨L, T⟩ := dgo_ran hc _ _ _ _ (dgo2_ok F _ e)
      exact ⟨L, T.to0, T.soft⟩
    · obtain ⟨L, T⟩ := dgo_ran hc _ _ _ _ (dgo2_ok F _ e)
      exact ⟨L, T.to0, T.soft⟩
/-! ### code -/
noncomputable def fseq (a b : St → Option (AX × St)) (s : St) : Option (AX × St) :=
  ob (a s) fun p => Prod.rec (motive := fun _ => Option (AX × St)) (fun x s' => AX.rec (motive := fun _ => Option (AX × St)) (b s') (fun id => some (.exit id, s')) (some (.ret, s')) x) p
noncomputable def fblock (id : Nat) (b : St → Option (AX × St)) (s : St) : Option (AX × St) :=
  ob (b s) fun p => Prod.rec (motive := fun _ => Option (AX × St)) (fun x s' => AX.rec (motive := fun _ => Option (AX × St)) (some (.normal, s')) (fun i => sel (Nat.beq i id) (some (.normal, s')) (some (.exit i, s'))) (some (.ret, s')) x) p
noncomputable def fcond (c : CO) (t e : St → Option (AX × St)) (s : St) : Option (AX × St) := ob (getO s.fr.get c) fun v => onBool v fun b => sel b (t s) (e s)
noncomputable def floop (b : St → Option (AX × St)) (n : Nat) : St → Option (AX × St) := Nat.rec (motive := fun _ => St → Option (AX × St)) (fun _ => none) (fun _ f => fseq b f) n
noncomputable def freg (P : Program) (gl : Gv) (nt0 : Nat) (call : CallF) (C : Ctx) (ops : Array Oper) (draw : Bool) (s : St) : Option (AX × St) := ob (sel draw (adraw2 P gl call C ops s) (fops P gl nt0 call C ops ops.toList s)) fun s => some (.normal, s)
noncomputable def fcode (P : Program) (gl : Gv) (nt0 : Nat) (call : CallF) (C : Ctx) (c : Code) : St → Option (AX × St) :=
  Code.rec (motive := fun _ => St → Option (AX × St)) (fun s => some (.normal, s)) (fun _ ops draw => freg P gl nt0 call C ops draw) (fun _ _ a b => fseq a b) (fun c _ _ t e => fcond (CO.of gl c) t e) (fun id _ b => fblock id b) (fun _ b => floop b C.rounds)
    (fun _ _ _ _ _ _ _ => none) (fun id s => some (.exit id, s)) (fun _ b => b) (fun _ s => some (.normal, s)) (fun _ _ => none) (fun s => some (.ret, s)) (fun _ _ => none) c
theorem fseq_eq (a b : St → Option (AX × St)) (s : St) : fseq a b s = aseq a b s := by
  unfold fseq aseq
  rw [ob_eq]
  cases a s with
  | none => rfl
  | some p =>
    obtain ⟨x, s'⟩ := p
    cases x <;> rfl
theorem fblock_eq (id : Nat) (b : St → Option (AX × St)) (s : St) : fblock id b s = ablock id b s := by
  unfold fblock ablock
  rw [ob_eq]
  cases b s with
  | none => rfl
  | some p =>
    obtain ⟨x, s'⟩ := p
    cases x with
    | exit i =>
      show sel (Nat.beq i id) _ _ = if i = id then _ else _
      rw [sel_eq, nbeq]
      simp only [decide_eq_true_eq]
    | _ => rfl
theorem aseq_mono {a a' b b' : St → Option (AX × St)} (ha : ∀ s r, a s = some r → a' s = some r) (hb : ∀ s r, b s = some r → b' s = some r) (s : St) (r : AX × St) (e : aseq a b s = some r) : aseq a' b' s = some r := by
  unfold aseq at e ⊢
  cases hq : a s with
  | none => rw [hq] at e; cases e
  | some p =>
    rw [hq] at e
    rw [ha _ _ hq]
    obtain ⟨x, s'⟩ := p
    cases x with
    | normal => exact hb _ _ e
    | exit i => exact e
    | ret => exact e
theorem ablock_mono {id : Nat} {b b' : St → Option (AX × St)} (hb : ∀ s r, b s = some r → b' s = some r) (s : St) (r : AX × St) (e : ablock id b s = some r) : ablock id b' s = some r := by
  unfold ablock at e ⊢
  cases hq : b s with
  | none => rw [hq] at e; cases e
  | some p => rw [hq] at e; rw [hb _ _ hq]; exact e
theorem fcode_ok (F : Fits P gl nt0 call C) : ∀ (c : Code) {s : St} {r : AX × St}, fcode P gl nt0 call C c s = some r → acode C (adraw2 P gl call C) c s = some r := by
  intro c
  induction c with
  | skip => intro s r e; exact e
  | label => intro s r e; exact e
  | region id ops draw =>
    intro s r e
    obtain ⟨s', h1, e⟩ := ob_some (show ob (sel draw (adraw2 P gl call C ops s) (fops P gl nt0 call C ops ops.toList s)) (fun s => some (.normal, s)) = some r from e)
    rw [acode_region]
    rw [sel_eq] at h1
    have h2 : (if draw then adraw2 P gl call C ops s else aops C ops ops.toList s) = some s' := by
      split at h1
      · rename_i hd; rw [if_pos hd]; exact h1
      · rename_i hd; rw [if_neg hd]; exact fops_ok F _ h1
    rw [h2]; exact e
  | seq a b iha ihb =>
    intro s r e
    have e : fseq (fcode P gl nt0 call C a) (fcode P gl nt0 call C b) s = some r := e
    rw [fseq_eq] at e
    exact aseq_mono (fun s r => iha) (fun s r => ihb) s r e
  | cond x t e iht ihe =>
    intro s r h
    obtain ⟨v, h1, h⟩ := ob_some (show ob (getO s.fr.get (CO.of gl x)) (fun v => onBool v fun b => sel b (fcode P gl nt0 call C t s) (fcode P gl nt0 call C e s)) = some r from h)
    replace h := onBool_some h
    obtain ⟨b, rfl, h⟩ := h
    rw [sel_eq] at h
    rw [getO_of, ← F.g] at h1
    rw [acode_cond, h1]
    cases b with
    | true => exact iht h
    | false => exact ihe h
  | block id b ih =>
    intro s r e
    have e : fblock id (fcode P gl nt0 call C b) s = some r := e
    rw [fblock_eq] at e
    exact ablock_mono (fun s r => ih) s r e
  | loop b ih =>
    intro s r e
    rw [acode_loop]
    have key : ∀ (n : Nat) (s : St) (r : AX × St), floop (fcode P gl nt0 call C b) n s = some r → aloop (acode C (adraw2 P gl call C) b) n s = some r := by
      intro n
      induction n with
      | zero => intro s r e; exact e
      | succ n ihn =>
        intro s r e
        have e : fseq (fcode P gl nt0 call C b) (floop (fcode P gl nt0 call C b) n) s = some r := e
        rw [fseq_eq] at e
        exact aseq_mono (fun s r => ih) ihn s r e
    exact key _ _ _ e
  | exit id => intro s r e; exact e
  | scope b ih => intro s r e; exact ih e
  | ret => intro s r e; exact e
  | _ => intros; rename_i e; cases e
/-! ### calls -/
noncomputable def fargs (l : List Value) : Nat → Tr Value → Tr Value := List.rec (motive := fun _ => Nat → Tr Value → Tr Value) (fun _ t => t) (fun v _ f i t => f (Nat.succ i) (t.set i (some v))) l
theorem fargs_eq : ∀ (l : List Value) (i : Nat) (t : Tr Value), fargs l i t = argTr l i t
  | [], i, t => rfl
  | v :: l, i, t => by
    show fargs l (i + 1) (t.set i (some v)) = _
    rw [fargs_eq l]; rfl
noncomputable def fbody (P : Program) (gl : Gv) (rounds : Nat) (call : CallF) (args : List Value) (nx : Nat) (h : Tr AObj) (fn : Func) : Res :=
  ob fn.body fun c => finish P fn.results (fcode P gl fn.ntmps call ⟨P, gl, call, rounds, args.length + (fn.ntmps - args.length)⟩ c ⟨fargs args 0 .leaf, nx, h⟩)
noncomputable def fcall (P : Program) (gl : Gv) (T : SumT) (rounds : Nat) (d : Nat) : CallF :=
  Nat.rec (motive := fun _ => CallF) (fun _ _ _ _ => none) (fun _ call f args nx h => Option.rec (motive := fun _ => Res) (ob (P.funcs[f]?) (fbody P gl rounds call args nx h)) (fun r => r) (T f args nx h)) d
end
theorem finish_some {P : Program} {rs : Array ResultVar} {o : Option (AX × St)} {v : Value} {n : Nat} {h : Tr AObj} (e : finish P rs o = some (v, n, h)) : ∃ x s vs, o = some (x, s) ∧ (∀ i, x ≠ .exit i) ∧ aresults P s.h s.fr.get rs.toList = some vs ∧ v = aresult vs ∧ n = s.nx ∧ h = s.h := by
  cases o with
  | none => cases e
  | some p =>
    obtain ⟨x, s⟩ := p
    have hx : ∀ i, x ≠ .exit i := fun i hi => by subst hi; cases e
    have e2 : (aresults P s.h s.fr.get rs.toList).bind (fun vs => some (aresult vs, s.nx, s.h)) = some (v, n, h) := by cases x <;> first | exact e | cases e
    replace e2 := Option.bind_eq_some_iff.1 e2
    obtain ⟨vs, hvs, e2⟩ := e2
    simp only [Option.some.injEq, Prod.mk.injEq] at e2
    obtain ⟨rfl, rfl, rfl⟩ := e2
    exact ⟨x, s, vs, rfl, hx, hvs, rfl, rfl, rfl⟩
/-- One call, where the calls within are answered rightly. -/
theorem body_ok {P : Program} {gl : Gv} {rounds : Nat} {call : CallF} (hng : Base P gl) (hm : P.follows .mixedOrders = true) (hc : CallOK P gl call) : CallOK P gl (fun f args nx h => ob (P.funcs[f]?) (fbody P gl rounds call args nx h)) := by
  have inv : ∀ {f : FuncId} {args : List Value} {nx : Nat} {h : Tr AObj} {v : Value} {n' : Nat} {h' : Tr AObj}, ob (P.funcs[f]?) (fbody P gl rounds call args nx h) = some (v, n', h') → ∃ fn c x s vs, P.funcs[f]? = some fn ∧ fn.body = some c ∧ acode ⟨P, gl, call, rounds, args.length + (fn.ntmps - args.length)⟩ (adraw2 P gl call ⟨P, gl, call, rounds, args.length + (fn.ntmps - args.length)⟩) c ⟨argTr args 0 .leaf, nx, h⟩ = some (x, s) ∧ (∀ i, x ≠ .exit i) ∧ aresults P s.h s.fr.get fn.results.toList = some vs ∧ v = aresult vs ∧ n' = s.nx ∧ h' = s.h := by
    intro f args nx h v n' h' e
    obtain ⟨fn, h1, e⟩ := ob_some e
    obtain ⟨c, h2, e⟩ := ob_some (show ob fn.body (fun c => finish P fn.results (fcode P gl fn.ntmps call ⟨P, gl, call, rounds, args.length + (fn.ntmps - args.length)⟩ c ⟨fargs args 0 .leaf, nx, h⟩)) = some (v, n', h') from e)
    obtain ⟨x, s, vs, k1, k2⟩ := finish_some e
    rw [fargs_eq] at k1
    exact ⟨fn, c, x, s, vs, h1, h2, fcode_ok ⟨rfl, rfl, rfl, by simp only; omega⟩ c k1, k2⟩
  have hD : ∀ (r nt : Nat), DrawOK ⟨P, gl, call, r, nt⟩ (adraw2 P gl call ⟨P, gl, call, r, nt⟩) := fun r nt => draw_ok (C := ⟨P, gl, call, r, nt⟩) hng hm hc (fun e => adraw2_ran (nt0 := 0) ⟨rfl, rfl, rfl, Nat.zero_le _⟩ hc e)
  refine ⟨?_, ?_⟩
  · intro f args nx h v n' h' e
    obtain ⟨fn, c, x, s, vs, h1, h2, hs, hx, hvs, rfl, rfl, rfl⟩ := inv e
    exact acode_mono (C := ⟨P, gl, call, rounds, args.length + (fn.ntmps - args.length)⟩) hc (hD _ _) _ _ _ _ hs
  · intro f args args' nx h v n' h' F w0 w m e R G hargs hf
    obtain ⟨fn, c, x, s, vs, hfn, hb, hs, hx, hvs, rfl, rfl, rfl⟩ := inv e
    have hal := hargs.len
    have hFR : FR m (args.length + (fn.ntmps - args.length)) (argTr args 0 .leaf).get { tmps := args'.toArray ++ Array.replicate (fn.ntmps - args'.toArray.size) undef, defers := [] } := by
      refine ⟨by simp [hal], rfl, fun t u hu => ?_⟩
      rw [get_argTr] at hu
      split at hu
      · obtain ⟨u', h1, h2⟩ := hargs.get _ u hu
        refine ⟨u', ?_, h2⟩
        rw [Nat.sub_zero] at h1
        have hlt : t < args'.length := (List.getElem?_eq_some_iff.1 h1).1
        rw [Array.getElem?_append_left (by simpa using hlt)]
        simpa using h1
      · rw [leaf_get] at hu; cases hu
    have hwp := acode_sound (C := ⟨P, gl, call, rounds, args.length + (fn.ntmps - args.length)⟩) hng hc (hD _ _) c hs R G hFR hf
    refine calls_of_wp hfn hb (wp_mono hwp ?_)
    rintro ex a' w' ⟨rfl, m', x1, d1, f1, R1⟩
    obtain ⟨v', j1, j2⟩ := results_sound (P := P) R1 f1 hvs
    cases x with
    | normal => exact ⟨f1.defers, v', j1, m', v', rfl, x1, d1, j2, R1⟩
    | ret => exact ⟨f1.defers, v', j1, m', v', rfl, x1, d1, j2, R1⟩
    | exit i => exact absurd rfl (hx i)
theorem fcall_ok {P : Program} {gl : Gv} {T : SumT} {rounds : Nat} (hng : Base P gl) (hm : P.follows .mixedOrders = true) (hT : TOK P gl T) : ∀ d : Nat, CallOK P gl (fcall P gl T rounds d) := by
  intro d
  induction d with
  | zero => exact ⟨fun e => (by cases e), fun e => (by cases e)⟩
  | succ d ih =>
    have hb := body_ok (rounds := rounds) hng hm ih
    have un : ∀ (f : FuncId) (args : List Value) (nx : Nat) (h : Tr AObj), fcall P gl T rounds (d + 1) f args nx h = match T f args nx h with
        | some r => r
        | none => ob (P.funcs[f]?) (fbody P gl rounds (fcall P gl T rounds d) args nx h) := by
      intro f args nx h
      show Option.rec (motive := fun _ => Res) _ (fun r => r) (T f args nx h) = _
      cases T f args nx h <;> rfl
    refine ⟨?_, ?_⟩
    · intro f args nx h v n' h' e
      rw [un] at e
      split at e
      · rename_i r hr
        exact hT.mono (f := f) (args := args) (nx := nx) (h := h) (v := v) (n' := n') (h' := h') (by simp only [hr, Option.getD_some]; exact e)
      · exact hb.mono e
    · intro f args args' nx h v n' h' F w0 w m e R G hargs hf
      rw [un] at e
      split at e
      · rename_i r hr
        exact hT.ok (f := f) (args := args) (nx := nx) (h := h) (v := v) (n' := n') (h' := h') (by simp only [hr, Option.getD_some]; exact e) R G hargs hf
      · exact hb.ok e R G hargs hf
end
end Go.Proofs.YtcccapeaeehjiaaGreatDoor.AM
