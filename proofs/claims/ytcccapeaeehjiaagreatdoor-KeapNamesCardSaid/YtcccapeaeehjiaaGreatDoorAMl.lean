/- The machine's steps, code and calls: what they say is what the model does. -/
import Derived.Test.YtcccapeaeehjiaaGreatDoorAMk
namespace Go.Proofs.YtcccapeaeehjiaaGreatDoor.AM
noncomputable section
open Go Go.RowKit
set_option linter.unusedVariables false
set_option linter.unusedSimpArgs false
def NoNG (P : Program) : Prop := ∀ (f : FuncId) (fn : Func), P.funcs[f]? = some fn → (fn.name == "runtime.NumGoroutine") = false
def TkOK (P : Program) (gl : Gv) : Prop := ∀ {o : Oper} {ρ : Operand → Option Value} {r : Value} {m : M} {ρ' : Operand → Value} {w : World}, gl.tk o ρ = some r → m.wv = gl.wv → (∀ x v, ρ x = some v → VR m v (ρ' x)) → ∃ r', (execOp ρ' o).run P w = .ok (.value r') w ∧ VR m r r'
structure Base (P : Program) (gl : Gv) : Prop where
  ng : NoNG P
  tk : TkOK P gl
theorem run_call {P : Program} {w : World} {ρ : Operand → Value} {o : Oper} {c : Call} {f : Operand} {g : FuncId} {cs : Array Value} {fn : Func} (hng : NoNG P) (ho : o.op = .call c) (hcl : c.callee = .value f) (hf : ρ f = .func (.func g) #[] cs)
    (hfn : P.funcs[g]? = some fn) (hb : fn.body.isSome = true) : (execOp ρ o).run P w = .ok (.enter g (c.args.map ρ ++ cs)) w := by
  have hn := hng g fn hfn
  have hb' : fn.body.isNone = false := by cases h : fn.body <;> simp_all
  have hpr : (program : Sem Program).run P w = .ok P w := rfl
  unfold execOp
  rw [ho]
  simp only [resolve, hcl, hf, Deferred.ofValue, invoke, callFunc, Sem.run_bind, Sem.run_pure, Result.andThen_ok, Array.empty_append, hpr, hfn, hn, hb', Bool.false_eq_true, if_false]
section
variable {C : Ctx} {D : Array Oper → St → Option St} {F : Nat → Prop} {w0 w : World} {m : M} {a : Act}
theorem aop_sound (hng : Base C.P C.gl) (hc : CallOK C.P C.gl C.call) {ρ : Operand → Option Value} {h : Tr AObj} {nx : Nat} (R : Rel F w0 m h w) (G : GL C.gl m) (hρ : ∀ x v, ρ x = some v → VR m v (a.eval x)) {o : Oper} {v : Value} {n' : Nat} {h' : Tr AObj}
    (hf : ∀ i, nx ≤ i → i < n' → ¬ m.dom i) (e : aop C ρ nx h o = some (v, n', h')) {K : Act → World → Prop} {Q : Exit → Act → World → Prop}
    (hK : ∀ m' v' w', Ext m m' → Dom m nx n' m' → VR m' v v' → Rel F w0 m' h' w' → K (a.put o.dst v') w') : o.wp C.P a w K Q := by
  have hN : NOk C.P F w0 m w (execOp a.eval o) v nx n' h' → o.wp C.P a w K Q := by
    intro e
    obtain ⟨m', v', w', h1, h2, h3, h4, h5⟩ := e
    have := hK m' v' w' h2 h3 h4 h5
    unfold Oper.wp
    rcases h1 with h1 | ⟨h1, h6⟩
    · rw [h1]; exact this
    · rw [h1]; rw [h6] at this; exact this
  have hV : aopX C.P ρ nx h o = some (v, n', h') → o.wp C.P a w K Q := by
    intro e
    rcases aopX_of e with e | e
    · exact hN (aopV_sound R hρ hf e)
    · exact hN (aopE_sound R hρ hf e)
  unfold aop at e
  split at e
  · rename_i c ho
    split at e
    · rename_i f hcl
      split at e
      · rename_i g fs cs hg
        split at e
        · rename_i hcond
          simp only [Bool.and_eq_true] at hcond
          have hfs : fs = #[] := by simpa using hcond.1
          subst hfs
          cases hfn : C.P.funcs[g]? with
          | none => rw [hfn] at hcond; exact absurd hcond.2 (by simp)
          | some fn =>
            rw [hfn] at hcond
            replace e := Option.bind_eq_some_iff.1 e
            obtain ⟨vs, hvs, e⟩ := e
            obtain ⟨cs', h1, h2⟩ := (hρ f _ hg).inv_fn2
            have hL := (avals_sound hρ hvs).append h2
            have hrun := run_call (P := C.P) (w := w) hng.ng ho hcl h1 hfn (by simpa using hcond.2)
            unfold Oper.wp
            rw [hrun]
            have := hc.ok e R G hL hf
            have ha : (List.map a.eval c.args.toList ++ cs'.toList).toArray = c.args.map a.eval ++ cs' := by
              apply Array.ext'
              simp
            rw [ha] at this
            refine Calls.mono this ?_
            rintro x w' ⟨m', v', rfl, k2, k3, k4, k5⟩
            exact hK m' v' w' k2 k3 k4 k5
        · exact hN (aopE_sound R hρ hf e)
      · cases e
    · exact hV e
  · unfold orTok at e
    split at e
    · rename_i r hr
      injection e with e
      subst e
      exact hV hr
    · obtain ⟨h1, h2, h3⟩ := keepR_inv e
      obtain ⟨r', k1, k2⟩ := hng.tk (w := w) h1 G.2 hρ
      unfold Oper.wp
      rw [k1]
      rw [h2, h3] at hK
      exact hK m r' w (Ext.refl m) (Dom.refl m _) k2 R
theorem astep_sound (hng : Base C.P C.gl) (hc : CallOK C.P C.gl C.call) {ops : Array Oper} {o : Oper} {s s' : St} (R : Rel F w0 m s.h w) (G : GL C.gl m) (f : FR m C.nt s.fr.get a) (hf : ∀ i, s.nx ≤ i → i < s'.nx → ¬ m.dom i)
    (e : astep C ops o s = some s') {K : Act → World → Prop} {Q : Exit → Act → World → Prop}
    (hK : ∀ m' a' w', Ext m m' → Dom m s.nx s'.nx m' → FR m' C.nt s'.fr.get a' → Rel F w0 m' s'.h w' → K a' w') : if Region.wanted o (yielded ops a.tmps) then o.wp C.P a w K Q else K (a.put o.dst undef) w := by
  unfold astep at e
  split at e
  · rename_i hw
    rw [awanted_sound f hw]
    rw [if_pos rfl]
    replace e := Option.bind_eq_some_iff.1 e
    obtain ⟨⟨v, n', h'⟩, h1, e⟩ := e
    replace e := Option.bind_eq_some_iff.1 e
    obtain ⟨fr', h2, e⟩ := e
    injection e with e
    subst e
    exact aop_sound hng hc R G (aeval_sound f G) hf h1 (fun m' v' w' k1 k2 k3 k4 => hK m' _ w' k1 k2 ((f.ext k1).put k3 h2) k4)
  · rename_i hw
    rw [awanted_sound f hw]
    rw [if_neg (by simp)]
    replace e := Option.bind_eq_some_iff.1 e
    obtain ⟨fr', h2, e⟩ := e
    injection e with e
    subst e
    exact hK m _ w (Ext.refl m) (Dom.refl m _) (f.put (VR.undef m) h2) R
  · cases e
theorem aops_sound (hng : Base C.P C.gl) (hc : CallOK C.P C.gl C.call) {ops : Array Oper} {Q : Exit → Act → World → Prop} : ∀ {l : List Oper} {s s' : St} {w : World} {m : M} {a : Act}, Rel F w0 m s.h w → GL C.gl m → FR m C.nt s.fr.get a → (∀ i, s.nx ≤ i → i < s'.nx → ¬ m.dom i) →
    aops C ops l s = some s' → (∀ m' a' w', Ext m m' → Dom m s.nx s'.nx m' → FR m' C.nt s'.fr.get a' → Rel F w0 m' s'.h w' → Q .normal a' w') → wpList C.P ops Q l a w
  | [], s, s', w, m, a, R, G, f, hf, e, hQ => by
    rw [aops_nil] at e
    injection e with e
    subst e
    exact wpList_nil (hQ m a w (Ext.refl m) (Dom.refl m _) f R)
  | o :: l, s, s', w, m, a, R, G, f, hf, e, hQ => by
    rw [aops_cons] at e
    replace e := Option.bind_eq_some_iff.1 e
    obtain ⟨s1, h1, e⟩ := e
    have n1 := astep_mono hc h1
    have n2 := aops_mono hc e
    refine wpList_step (fun K hK => ?_)
    refine astep_sound hng hc R G f (fun i q1 q2 => hf i q1 (Nat.lt_of_lt_of_le q2 n2)) h1 (fun m1 a1 w1 x1 d1 f1 R1 => hK a1 w1 ?_)
    refine aops_sound hng hc R1 (G.ext x1) f1 (fun i q1 q2 => ?_) e (fun m' a' w' x2 d2 f2 R2 => hQ m' a' w' (x1.trans x2) (d1.trans d2 n1 n2) f2 R2)
    rw [d1 i]
    intro hh
    rcases hh with hh | hh
    · exact hf i (Nat.le_trans n1 q1) q2 hh
    · omega
theorem QX.trans {nx nt : Nat} {x : AX} {s1 s' : St} {m1 : M} (x1 : Ext m m1) (d1 : Dom m nx s1.nx m1) (n1 : nx ≤ s1.nx) (n2 : s1.nx ≤ s'.nx) {e : Exit} {a' : Act} {w' : World} (q : QX F w0 m1 s1.nx nt x s' e a' w') : QX F w0 m nx nt x s' e a' w' := by
  obtain ⟨h1, m', x2, d2, f2, R2⟩ := q
  exact ⟨h1, m', x1.trans x2, d1.trans d2 n1 n2, f2, R2⟩
theorem hf_next {nx k q : Nat} {m1 : M} (d1 : Dom m nx k m1) (n1 : nx ≤ k) (hf : ∀ i, nx ≤ i → i < q → ¬ m.dom i) : ∀ i, k ≤ i → i < q → ¬ m1.dom i := by
  intro i q1 q2
  rw [d1 i]
  intro hh
  rcases hh with hh | hh
  · exact hf i (Nat.le_trans n1 q1) q2 hh
  · omega
/-- What a code promises. -/
def CodeOK (C : Ctx) (c : Code) (b : St → Option (AX × St)) : Prop :=
  ∀ {s : St} {x : AX} {s' : St} {F : Nat → Prop} {w0 w : World} {m : M} {a : Act}, b s = some (x, s') → Rel F w0 m s.h w → GL C.gl m → FR m C.nt s.fr.get a → (∀ i, s.nx ≤ i → i < s'.nx → ¬ m.dom i) → c.wp C.P (QX F w0 m s.nx C.nt x s') a w
theorem aloop_sound {c : Code} {b : St → Option (AX × St)} (hm : ∀ s x s', b s = some (x, s') → s.nx ≤ s'.nx) (hb : CodeOK C c b) {F : Nat → Prop} {w0 : World} : ∀ (n : Nat) {s : St} {x : AX} {s' : St} {w : World} {m : M} {a : Act}, aloop b n s = some (x, s') → Rel F w0 m s.h w → GL C.gl m → FR m C.nt s.fr.get a → (∀ i, s.nx ≤ i → i < s'.nx → ¬ m.dom i) →
    Code.rounds C.P c (QX F w0 m s.nx C.nt x s') n a w
  | 0, s, x, s', w, m, a, e, R, G, f, hf => by cases e
  | n + 1, s, x, s', w, m, a, e, R, G, f, hf => by
    rw [aloop_succ] at e
    unfold Code.rounds
    split at e
    · rename_i s1 h1
      have n1 := hm _ _ _ h1
      have n2 := aloop_mono hm n s1 x s' e
      refine wp_mono (hb h1 R G f (fun i q1 q2 => hf i q1 (Nat.lt_of_lt_of_le q2 n2))) ?_
      rintro ex a1 w1 ⟨rfl, m1, x1, d1, f1, R1⟩
      show Code.rounds C.P c _ n a1 w1
      have := aloop_sound hm hb n e R1 (G.ext x1) f1 (hf_next d1 n1 hf)
      clear hb
      revert this
      have key : ∀ (k : Nat) (a1 : Act) (w1 : World), Code.rounds C.P c (QX F w0 m1 s1.nx C.nt x s') k a1 w1 → Code.rounds C.P c (QX F w0 m s.nx C.nt x s') k a1 w1 := by
        intro k
        induction k with
        | zero => intro a1 w1 h; exact h
        | succ k ih =>
          intro a1 w1 h
          unfold Code.rounds at h ⊢
          refine wp_mono h ?_
          intro ex a2 w2 q
          cases ex with
          | normal => exact ih a2 w2 q
          | _ => exact QX.trans x1 d1 n1 n2 q
      exact key n a1 w1
    · rename_i hn
      refine wp_mono (hb e R G f hf) ?_
      intro ex a1 w1 q
      cases ex with
      | normal =>
        obtain ⟨h1, _⟩ := q
        cases x with
        | normal => exact absurd e (hn s')
        | exit => cases h1
        | ret => cases h1
      | _ => exact q
theorem acode_sound (hng : Base C.P C.gl) (hc : CallOK C.P C.gl C.call) (hD : DrawOK C D) : ∀ (c : Code), CodeOK C c (acode C D c) := by
  intro c
  induction c with
  | skip => intro s x s' F w0 w m a e R G f hf; simp only [acode_skip, acode_label, acode_region, acode_seq, acode_cond, acode_block, acode_loop, acode_exit, acode_scope, acode_ret, Option.some.injEq, Prod.mk.injEq] at e; obtain ⟨rfl, rfl⟩ := e; exact wp_skip ⟨rfl, m, Ext.refl m, Dom.refl m _, f, R⟩
  | label => intro s x s' F w0 w m a e R G f hf; simp only [acode_skip, acode_label, acode_region, acode_seq, acode_cond, acode_block, acode_loop, acode_exit, acode_scope, acode_ret, Option.some.injEq, Prod.mk.injEq] at e; obtain ⟨rfl, rfl⟩ := e; exact wp_label ⟨rfl, m, Ext.refl m, Dom.refl m _, f, R⟩
  | exit => intro s x s' F w0 w m a e R G f hf; simp only [acode_skip, acode_label, acode_region, acode_seq, acode_cond, acode_block, acode_loop, acode_exit, acode_scope, acode_ret, Option.some.injEq, Prod.mk.injEq] at e; obtain ⟨rfl, rfl⟩ := e; exact wp_exit ⟨rfl, m, Ext.refl m, Dom.refl m _, f, R⟩
  | ret => intro s x s' F w0 w m a e R G f hf; simp only [acode_skip, acode_label, acode_region, acode_seq, acode_cond, acode_block, acode_loop, acode_exit, acode_scope, acode_ret, Option.some.injEq, Prod.mk.injEq] at e; obtain ⟨rfl, rfl⟩ := e; exact wp_ret ⟨rfl, m, Ext.refl m, Dom.refl m _, f, R⟩
  | region id ops draw =>
    intro s x s' F w0 w m a e R G f hf
    simp only [acode_skip, acode_label, acode_region, acode_seq, acode_cond, acode_block, acode_loop, acode_exit, acode_scope, acode_ret] at e
    replace e := Option.bind_eq_some_iff.1 e
    obtain ⟨s1, h1, e⟩ := e
    simp only [Option.some.injEq, Prod.mk.injEq] at e
    obtain ⟨rfl, rfl⟩ := e
    cases draw with
    | true => rw [if_pos rfl] at h1; exact hD.ok id h1 R G f hf
    | false => rw [if_neg (by simp)] at h1; exact wp_region_list (aops_sound hng hc R G f hf h1 (fun m' a' w' x1 d1 f1 R1 => ⟨rfl, m', x1, d1, f1, R1⟩))
  | seq ca cb iha ihb =>
    intro s x s' F w0 w m a e R G f hf
    simp only [acode_skip, acode_label, acode_region, acode_seq, acode_cond, acode_block, acode_loop, acode_exit, acode_scope, acode_ret] at e
    apply wp_seq
    split at e
    · rename_i s1 h1
      have n1 := acode_mono hc hD _ _ _ _ h1
      have n2 := acode_mono hc hD _ _ _ _ e
      refine wp_mono (iha h1 R G f (fun i q1 q2 => hf i q1 (Nat.lt_of_lt_of_le q2 n2))) ?_
      rintro ex a1 w1 ⟨rfl, m1, x1, d1, f1, R1⟩
      exact wp_mono (ihb e R1 (G.ext x1) f1 (hf_next d1 n1 hf)) (fun _ _ _ q => QX.trans x1 d1 n1 n2 q)
    · rename_i hn
      refine wp_mono (iha e R G f hf) ?_
      intro ex a1 w1 q
      cases ex with
      | normal =>
        obtain ⟨h1, _⟩ := q
        cases x with
        | normal => exact absurd e (hn s')
        | exit => cases h1
        | ret => cases h1
      | _ => exact q
  | cond c t u iht ihu =>
    intro s x s' F w0 w m a e R G f hf
    simp only [acode_skip, acode_label, acode_region, acode_seq, acode_cond, acode_block, acode_loop, acode_exit, acode_scope, acode_ret] at e
    split at e
    · rename_i hcv
      exact wp_cond_true (aeval_sound f G c _ hcv).inv_bool (iht e R G f hf)
    · rename_i hcv
      exact wp_cond_false (aeval_sound f G c _ hcv).inv_bool (ihu e R G f hf)
    · cases e
  | block id b ih =>
    intro s x s' F w0 w m a e R G f hf
    simp only [acode_skip, acode_label, acode_region, acode_seq, acode_cond, acode_block, acode_loop, acode_exit, acode_scope, acode_ret] at e
    apply wp_block
    split at e
    · rename_i i s1 h1
      split at e
      · rename_i hid
        simp only [Option.some.injEq, Prod.mk.injEq] at e
        obtain ⟨rfl, rfl⟩ := e
        refine wp_mono (ih h1 R G f hf) ?_
        rintro ex a1 w1 ⟨rfl, q⟩
        show Exit.inBlock id _ (.exit i) a1 w1
        simp only [Exit.inBlock]
        rw [if_pos hid]
        exact ⟨rfl, q⟩
      · rename_i hid
        simp only [Option.some.injEq, Prod.mk.injEq] at e
        obtain ⟨rfl, rfl⟩ := e
        refine wp_mono (ih h1 R G f hf) ?_
        rintro ex a1 w1 ⟨rfl, q⟩
        show Exit.inBlock id _ (.exit i) a1 w1
        simp only [Exit.inBlock]
        rw [if_neg hid]
        exact ⟨rfl, q⟩
    · rename_i hn
      refine wp_mono (ih e R G f hf) ?_
      intro ex a1 w1 q
      cases ex with
      | exit j =>
        obtain ⟨h1, _⟩ := q
        cases x with
        | normal => cases h1
        | exit i => exact absurd e (hn i s')
        | ret => cases h1
      | _ => exact q
  | loop b ih =>
    intro s x s' F w0 w m a e R G f hf
    simp only [acode_skip, acode_label, acode_region, acode_seq, acode_cond, acode_block, acode_loop, acode_exit, acode_scope, acode_ret] at e
    exact wp_loop_rounds C.rounds (aloop_sound (acode_mono hc hD b) ih C.rounds e R G f hf)
  | scope b ih =>
    intro s x s' F w0 w m a e R G f hf
    simp only [acode_skip, acode_label, acode_region, acode_seq, acode_cond, acode_block, acode_loop, acode_exit, acode_scope, acode_ret] at e
    refine wp_scope_straight (wp_mono (ih e R G f hf) ?_)
    intro ex a1 w1 q
    cases ex with
    | goto l =>
      obtain ⟨h1, _⟩ := q
      cases x <;> cases h1
    | _ => exact q
  | rangeFunc => intro s x s' F w0 w m a e; cases e
  | goto => intro s x s' F w0 w m a e; cases e
  | refuse => intro s x s' F w0 w m a e; cases e
end
end
end Go.Proofs.YtcccapeaeehjiaaGreatDoor.AM
