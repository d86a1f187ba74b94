/- Calls, by depth: sound. -/
import Derived.Test.YtcccapeaeehjiaaGreatDoorAMl
namespace Go.Proofs.YtcccapeaeehjiaaGreatDoor.AM
noncomputable section
open Go Go.RowKit
set_option linter.unusedVariables false
set_option linter.unusedSimpArgs false
def aresults (P : Program) (h : Tr AObj) (fr : Nat → Option Value) : List ResultVar → Option (List Value)
  | [] => some []
  | .tmp t :: l => (fr t).bind fun v => if notTup v then (aresults P h fr l).bind fun r => some (v :: r) else none
  | .cell a t :: l => (fr a).bind fun p => (aload P h t p).bind fun v => if notTup v then (aresults P h fr l).bind fun r => some (v :: r) else none
def aresult : List Value → Value
  | [v] => v
  | vs => .tuple vs.toArray
def argTr : List Value → Nat → Tr Value → Tr Value
  | [], _, t => t
  | v :: l, i, t => argTr l (i + 1) (t.set i (some v))
theorem get_argTr : ∀ (l : List Value) (i : Nat) (t : Tr Value) (j : Nat), (argTr l i t).get j = if i ≤ j ∧ j < i + l.length then l[j - i]? else t.get j
  | [], i, t, j => by rw [if_neg (by simp only [List.length_nil]; omega)]; rfl
  | v :: l, i, t, j => by
    unfold argTr
    rw [get_argTr l (i + 1), Tr.get_set]
    by_cases h1 : j = i
    · subst h1
      rw [if_neg (by omega), if_pos rfl, if_pos (by simp only [List.length_cons]; omega), Nat.sub_self]
      rfl
    · by_cases h2 : i + 1 ≤ j ∧ j < i + 1 + l.length
      · rw [if_pos h2, if_pos (by simp only [List.length_cons]; omega)]
        obtain ⟨d, hd⟩ : ∃ d, j - i = d + 1 := ⟨j - i - 1, by omega⟩
        rw [hd, List.getElem?_cons_succ]
        congr 1
        omega
      · rw [if_neg h2, if_neg h1, if_neg (by simp only [List.length_cons]; omega)]
theorem leaf_get {α : Type} (n : Nat) : (Tr.leaf : Tr α).get n = none := rfl
abbrev SumT := FuncId → List Value → Nat → Tr AObj → Option Res
def finish (P : Program) (rs : Array ResultVar) : Option (AX × St) → Res
  | some (.exit _, _) => none
  | some (_, s) => (aresults P s.h s.fr.get rs.toList).bind fun vs => some (aresult vs, s.nx, s.h)
  | none => none
def acall (P : Program) (gl : Gv) (T : SumT) (D : Ctx → Array Oper → St → Option St) (rounds : Nat) : Nat → CallF
  | 0 => fun _ _ _ _ => none
  | d + 1 => fun f args nx h => match T f args nx h with
    | some r => r
    | none => match P.funcs[f]? with
      | some fn => match fn.body with
        | some c =>
          let C : Ctx := ⟨P, gl, acall P gl T D rounds d, rounds, args.length + (fn.ntmps - args.length)⟩
          finish P fn.results (acode C (D C) c ⟨argTr args 0 .leaf, nx, h⟩)
        | none => none
      | none => none
section
variable {P : Program} {F : Nat → Prop} {w0 w : World} {m : M} {gl : Gv}
theorem VR.one_of {v v' : Value} (r : VR m v v') (hn : notTup v = true) : VR1 m v v' := by
  cases r with
  | one r => exact r
  | tup => cases hn
theorem mapM_run {α : Type} {f : α → Sem Value} : ∀ {l : List α} {vs : List Value}, vs.length = l.length → (∀ (j : Nat) (x : α) (v : Value), l[j]? = some x → vs[j]? = some v → (f x).run P w = .ok v w) → (l.mapM f).run P w = .ok vs w
  | [], [], _, _ => rfl
  | [], _ :: _, h, _ => by simp at h
  | _ :: _, [], h, _ => by simp at h
  | x :: l, v :: vs, h, k => by
    rw [List.mapM_cons]
    simp only [Sem.run_bind, k 0 x v rfl rfl, Result.andThen_ok, mapM_run (by simpa using h) (fun j x v h1 h2 => k (j + 1) x v (by simpa using h1) (by simpa using h2)), Sem.run_pure]
theorem aresults_sound {nt : Nat} {fr : Nat → Option Value} {a : Act} {h : Tr AObj} (R : Rel F w0 m h w) (f : FR m nt fr a) : ∀ {l : List ResultVar} {vs : List Value}, aresults P h fr l = some vs →
    ∃ vs', L2 (VR1 m) vs vs' ∧ vs'.length = l.length ∧ ∀ (j : Nat) (x : ResultVar) (v : Value), l[j]? = some x → vs'[j]? = some v → (match x with | .tmp t => (pure (a.tmps.getD t undef) : Sem Value) | .cell b t => do loadVar t (← asAddr (a.tmps.getD b undef))).run P w = .ok v w
  | [], vs, e => by unfold aresults at e; injection e with e; subst e; exact ⟨[], .nil, rfl, fun j x v h => by simp at h⟩
  | .tmp t :: l, vs, e => by
    unfold aresults at e
    replace e := Option.bind_eq_some_iff.1 e
    obtain ⟨v, hv, e⟩ := e
    split at e
    · rename_i hn
      replace e := Option.bind_eq_some_iff.1 e
      obtain ⟨r, hr, e⟩ := e
      injection e with e
      subst e
      obtain ⟨r', k1, k2, k3⟩ := aresults_sound R f hr
      obtain ⟨v', h1, h2⟩ := f.get t v hv
      refine ⟨v' :: r', .cons (h2.one_of hn) k1, by simp [k2], fun j x u hx hu => ?_⟩
      cases j with
      | zero =>
        simp only [List.getElem?_cons_zero, Option.some.injEq] at hx hu
        subst hx; subst hu
        simp only [Array.getD_eq_getD_getElem?, h1, Option.getD_some, Sem.run_pure]
      | succ j => exact k3 j x u (by simpa using hx) (by simpa using hu)
    · cases e
  | .cell b t :: l, vs, e => by
    unfold aresults at e
    replace e := Option.bind_eq_some_iff.1 e
    obtain ⟨p, hp, e⟩ := e
    replace e := Option.bind_eq_some_iff.1 e
    obtain ⟨v, hv, e⟩ := e
    split at e
    · rename_i hn
      replace e := Option.bind_eq_some_iff.1 e
      obtain ⟨r, hr, e⟩ := e
      injection e with e
      subst e
      obtain ⟨r', k1, k2, k3⟩ := aresults_sound R f hr
      obtain ⟨p', h1, h2⟩ := f.get b p hp
      have hld := aload_sound (P := P) (nx := 0) R h2 hv
      cases p with
      | pointer q => cases q with
        | none => cases hv
        | some q =>
          obtain ⟨_, rfl⟩ := h2.inv_ptr
          have hl2 : ∃ v', (loadVar t (mv m q)).run P w = .ok v' w ∧ VR m v v' := by
            unfold aload at hv
            obtain ⟨tb, hb1, hv⟩ := Option.bind_eq_some_iff.1 hv
            cases tb with
            | true =>
              simp only [if_true] at hv
              obtain ⟨n, hn2, hv⟩ := Option.bind_eq_some_iff.1 hv
              obtain ⟨us, hus, rfl⟩ := Option.map_eq_some_iff.1 hv
              obtain ⟨us', q1, q2, q3⟩ := agets_sound R hus
              have hll := agets_len hus
              have hrun := run_loadCells_list (P := P) w (mv m q) us' q2
              refine ⟨.agg us'.toArray, ?_, .one (.agg (A2.of_lists (by omega) q3))⟩
              unfold loadVar
              simp only [Sem.run_bind, Sem.run_pure, Result.andThen_ok, run_isAgg' hb1, if_true, run_sizeOf' hn2]
              rw [← q1, hrun]
              rfl
            | false =>
              simp only [Bool.false_eq_true, if_false] at hv
              obtain ⟨v', q1, q2⟩ := aget_sound R hv
              refine ⟨v', ?_, .cell q2⟩
              unfold loadVar
              simp only [Sem.run_bind, Sem.run_pure, Result.andThen_ok, run_isAgg' hb1, Bool.false_eq_true, if_false]
              unfold load
              simp [Sem.run, q1]
          obtain ⟨v', j1, j2⟩ := hl2
          refine ⟨v' :: r', .cons (j2.one_of hn) k1, by simp [k2], fun j x u hx hu => ?_⟩
          cases j with
          | zero =>
            simp only [List.getElem?_cons_zero, Option.some.injEq] at hx hu
            subst hx; subst hu
            simp only [Array.getD_eq_getD_getElem?, h1, Option.getD_some, asAddr, Sem.run_bind, Sem.run_pure, Result.andThen_ok, j1]
          | succ j => exact k3 j x u (by simpa using hx) (by simpa using hu)
      | _ => cases hv
    · cases e
theorem results_sound {nt : Nat} {fr : Nat → Option Value} {a : Act} {h : Tr AObj} (R : Rel F w0 m h w) (f : FR m nt fr a) {fn : Func} {vs : List Value} (e : aresults P h fr fn.results.toList = some vs) :
    ∃ v', (results fn a.tmps).run P w = .ok v' w ∧ VR m (aresult vs) v' := by
  obtain ⟨vs', h1, h2, h3⟩ := aresults_sound R f e
  have hm := mapM_run (P := P) (w := w) h2 h3
  have hl := h1.len
  refine ⟨if h : vs'.toArray.size = 1 then vs'.toArray[0] else .tuple vs'.toArray, ?_, ?_⟩
  · unfold results
    have hrs : fn.results = fn.results.toList.toArray := by simp
    rw [hrs, List.mapM_toArray]
    simp only [map_eq_pure_bind, Sem.run_bind, Sem.run_pure, Function.comp_apply]
    exact congrArg (fun z => Result.andThen (Result.andThen z (fun (a : List Value) w' => Result.ok a.toArray w')) (fun (a : Array Value) w' => Result.ok (if h : a.size = 1 then a[0] else Value.tuple a) w')) hm
  · have htup : VR m (.tuple vs.toArray) (.tuple vs'.toArray) := .tup ⟨by simp [hl], fun i x hx => by simpa using h1.get i x (by simpa using hx)⟩
    cases h1 with
    | nil => exact htup
    | cons r t => cases t with
      | nil => exact .one r
      | cons r2 t2 => exact htup
end
def TOK (P : Program) (gl : Gv) (T : SumT) : Prop := CallOK P gl fun f args nx h => (T f args nx h).getD none
theorem acall_ok {P : Program} {gl : Gv} {T : SumT} {D : Ctx → Array Oper → St → Option St} {rounds : Nat} (hng : Base P gl) (hT : TOK P gl T) (hD : ∀ C : Ctx, C.P = P → C.gl = gl → CallOK P gl C.call → DrawOK C (D C)) : ∀ d : Nat, CallOK P gl (acall P gl T D rounds d) := by
  intro d
  induction d with
  | zero => exact ⟨fun e => (by cases e), fun e => (by cases e)⟩
  | succ d ih =>
    refine ⟨?_, ?_⟩
    · intro f args nx h v n' h' e
      unfold acall at e
      split at e
      · rename_i r hr
        exact hT.mono (f := f) (args := args) (nx := nx) (h := h) (v := v) (n' := n') (h' := h') (by simp only [hr, Option.getD_some]; exact e)
      · split at e
        · rename_i fn hfn
          split at e
          · rename_i c hb
            simp only at e
            unfold finish at e
            split at e
            · cases e
            · rename_i x s hx hs
              replace e := Option.bind_eq_some_iff.1 e
              obtain ⟨vs, hvs, e⟩ := e
              simp only [Option.some.injEq, Prod.mk.injEq] at e
              have := acode_mono (C := ⟨P, gl, acall P gl T D rounds d, rounds, args.length + (fn.ntmps - args.length)⟩) ih (hD _ rfl rfl ih) _ _ _ _ hs
              rw [← e.2.1]; exact this
            · cases e
          · cases e
        · cases e
    · intro f args args' nx h v n' h' F w0 w m e R G hargs hf
      unfold acall at e
      split at e
      · rename_i r hr
        exact hT.ok (f := f) (args := args) (nx := nx) (h := h) (v := v) (n' := n') (h' := h') (by simp only [hr, Option.getD_some]; exact e) R G hargs hf
      · split at e
        · rename_i fn hfn
          split at e
          · rename_i c hb
            simp only at e
            unfold finish at e
            have hal := hargs.len
            have body : ∀ (x : AX) (s : St), acode ⟨P, gl, acall P gl T D rounds d, rounds, args.length + (fn.ntmps - args.length)⟩ (D ⟨P, gl, acall P gl T D rounds d, rounds, args.length + (fn.ntmps - args.length)⟩) c ⟨argTr args 0 .leaf, nx, h⟩ = some (x, s) → x ≠ .exit 0 ∨ True → (∀ i, x ≠ .exit i) →
                (aresults P s.h s.fr.get fn.results.toList).bind (fun vs => some (aresult vs, s.nx, s.h)) = some (v, n', h') →
                Calls P f args'.toArray w fun e w' => ∃ m' v', e = .returned v' ∧ Ext m m' ∧ Dom m nx n' m' ∧ VR m' v v' ∧ Rel F w0 m' h' w' := by
              intro x s hs _ hx e
              replace e := Option.bind_eq_some_iff.1 e
              obtain ⟨vs, hvs, e⟩ := e
              simp only [Option.some.injEq, Prod.mk.injEq] at e
              obtain ⟨rfl, rfl, rfl⟩ := e
              have hFR : FR m (args.length + (fn.ntmps - args.length)) (argTr args 0 .leaf).get { tmps := args'.toArray ++ Array.replicate (fn.ntmps - args'.toArray.size) undef, defers := [] } := by
                refine ⟨by simp [hal], rfl, fun t u hu => ?_⟩
                rw [get_argTr] at hu
                split at hu
                · obtain ⟨u', h1, h2⟩ := hargs.get _ u hu
                  refine ⟨u', ?_, h2⟩
                  rw [Nat.sub_zero] at h1
                  have hlt : t < args'.length := (List.getElem?_eq_some_iff.1 h1).1
                  rw [Array.getElem?_append_left (by simpa using hlt)]
                  simpa using h1
                · rw [leaf_get] at hu; cases hu
              have hwp := acode_sound (C := ⟨P, gl, acall P gl T D rounds d, rounds, args.length + (fn.ntmps - args.length)⟩) hng ih (hD _ rfl rfl ih) c hs R G hFR hf
              refine calls_of_wp hfn hb (wp_mono hwp ?_)
              rintro ex a' w' ⟨rfl, m', x1, d1, f1, R1⟩
              obtain ⟨v', j1, j2⟩ := results_sound (P := P) R1 f1 hvs
              cases x with
              | normal => exact ⟨f1.defers, v', j1, m', v', rfl, x1, d1, j2, R1⟩
              | ret => exact ⟨f1.defers, v', j1, m', v', rfl, x1, d1, j2, R1⟩
              | exit i => exact absurd rfl (hx i)
            split at e
            · cases e
            · rename_i x s hx hs
              exact body x s hs (.inr trivial) (fun i hi => by subst hi; exact hx i rfl) e
            · cases e
          · cases e
        · cases e
end
end Go.Proofs.YtcccapeaeehjiaaGreatDoor.AM
