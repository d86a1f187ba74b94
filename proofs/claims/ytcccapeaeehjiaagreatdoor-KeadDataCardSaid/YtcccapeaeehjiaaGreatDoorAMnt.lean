/- The tables that the runs read are laid in every world of the row. -/
import Derived.Test.YtcccapeaeehjiaaGreatDoorAMn0
import Derived.Handed
import Derived.HandedShaped
import Derived.Lib.LaidTab
namespace Go.Proofs.YtcccapeaeehjiaaGreatDoor.AM
open Go Go.Proofs Go.RowKit Go.Lib
set_option linter.unusedVariables false
set_option linter.unusedSimpArgs false
def Reads (P : Program) (w : World) (n : String) (d : DataW Unit) : Prop :=
  ∃ g t cs fuel p, P.globalNamed n = some g ∧ (P.globals[g]?).map (·.type) = some t ∧ w.var? P n = some cs ∧ DataW.trod (fun _ => ()) P w 0 (fun _ => true) false fuel t cs.toList = some (d, p)
theorem reads {P : Program} {w : World} : ∀ {l : List (String × DataW Unit)} {ps : List MemPlace}, DataW.LaidVars P w l ps → ∀ n d, (n, d) ∈ l → Reads P w n d
  | [], _, _, _, _, hm => by cases hm
  | (n', d') :: r, ps, h, n, d, hm => by
    obtain ⟨g, t, cs, fuel, p, q, h1, h2, h3, h4, h5, _⟩ := h
    rcases List.mem_cons.1 hm with e | e
    · cases e
      exact ⟨g, t, cs, fuel, p, h1, h2, h3, h4⟩
    · exact reads h5 n d e
theorem tab0_of {w : World} {l : List (String × DataW Unit)} {zs : List Int} (h : laidMet Tryz.prog l w) (hm : ("internal/strconv.uint64pow10", Lib.tabData .u64 zs) ∈ l) : ∀ (j : Nat) (n : Int), zs[j]? = some n → w.cell? ⟨1, j, none⟩ = some (.int .u64 n) := by
  obtain ⟨ps, hv, _⟩ := h
  obtain ⟨g, t, cs, fuel, p, h1, h2, h3, h4⟩ := reads hv _ _ hm
  have e1 : Tryz.prog.globalNamed "internal/strconv.uint64pow10" = some 1 := by kernel_rfl
  obtain rfl := Option.some.inj (e1.symm.trans h1)
  have e2 : (Tryz.prog.globals[1]?).map (·.type) = some 304 := by kernel_rfl
  obtain rfl := Option.some.inj (e2.symm.trans h2)
  have hT : Lib.TabIs Tryz.prog w "internal/strconv.uint64pow10" .u64 zs := by
    unfold Lib.TabIs
    rw [h3, ← Lib.cells_of_tab Tryz.underlying304 Tryz.underlying22 (by kernel_rfl) (by kernel_rfl) h4]
  intro j n hj
  have hlt := (List.getElem?_eq_some_iff.1 hj).1
  have := Lib.TabIs.cell hT e1 j hlt
  rw [this, List.getD, hj]; rfl
theorem tab1_of {w : World} {l : List (String × DataW Unit)} {zs : List Int} (h : laidMet Tryz.prog l w) (hm : ("math/bits.deBruijn64tab", Lib.tabData .u8 zs) ∈ l) : ∀ (j : Nat) (n : Int), zs[j]? = some n → w.cell? ⟨7, j, none⟩ = some (.int .u8 n) := by
  obtain ⟨ps, hv, _⟩ := h
  obtain ⟨g, t, cs, fuel, p, h1, h2, h3, h4⟩ := reads hv _ _ hm
  have e1 : Tryz.prog.globalNamed "math/bits.deBruijn64tab" = some 7 := by kernel_rfl
  obtain rfl := Option.some.inj (e1.symm.trans h1)
  have e2 : (Tryz.prog.globals[7]?).map (·.type) = some 358 := by kernel_rfl
  obtain rfl := Option.some.inj (e2.symm.trans h2)
  have hT : Lib.TabIs Tryz.prog w "math/bits.deBruijn64tab" .u8 zs := by
    unfold Lib.TabIs
    rw [h3, ← Lib.cells_of_tab Tryz.underlying358 Tryz.underlying5 (by kernel_rfl) (by kernel_rfl) h4]
  intro j n hj
  have hlt := (List.getElem?_eq_some_iff.1 hj).1
  have := Lib.TabIs.cell hT e1 j hlt
  rw [this, List.getD, hj]; rfl
theorem tabs_of {w : World} {l : List (String × DataW Unit)} (h : laidMet Tryz.prog l w) (hm : ∀ t ∈ [("internal/strconv.uint64pow10", Lib.tabData .u64 tabs[0].ns), ("math/bits.deBruijn64tab", Lib.tabData .u8 tabs[1].ns)], t ∈ l) (hx : ∃ m, w.cell? ⟨0, 0, none⟩ = some (.int .i64 m)) : TabC tabs w := by
  obtain ⟨mx, hx⟩ := hx
  refine ⟨mx, fun t ht => ?_⟩
  simp only [tabs, List.mem_cons, List.not_mem_nil, or_false] at ht
  rcases ht with rfl | rfl | rfl
  · exact ⟨by simp, fun _ => tab0_of h (hm _ List.mem_cons_self), fun e => by cases e⟩
  · exact ⟨by simp, fun _ => tab1_of h (hm _ (List.mem_cons_of_mem _ List.mem_cons_self)), fun e => by cases e⟩
  · exact ⟨by simp, (fun e => by cases e), fun _ => hx⟩
theorem max_of {w : World} (h : w.ShapedOpen Tryz.prog) : ∃ m, w.cell? ⟨0, 0, none⟩ = some (.int .i64 m) := Tryz.laysM219.s1_3 w h
theorem change_and_shaped {H : Type} {enc : TypeId × Value → H} {a : Assume} {C : Checked} {os : Os} {f : FuncId} {fn : Func} {s : ChangeSpec} {conds : List PathCond} {apart fresh handsOn again : Bool} {X : World → Array Value → Prop}
    (hX : ∀ (w w' : World) (args : Array Value), w.heap = w'.heap → X w args → X w' args)
    (own : ownKnob C.prog.godebug = none) (started : os.Started) (noInit : C.prog.inits.idxOf? f = none) (hfn : C.prog.funcs[f]? = some fn)
    (witness : ∃ (w : World) (tape : Tape) (i : Input), w.os = os ∧ (w.forCall tape i).Shaped C.prog ∧ i.vars = [] ∧ Input.okWide C.prog (w.forCall tape i) .any w.heap.size f i ∧
      ((s.pre enc C.prog fn conds apart (w.forCall tape i).memory i.args ∧ X (w.forCall tape i).memory i.args) ∧ sizedMet enc C.prog fn (OpenSpec.ofChange s) apart (w.forCall tape i).memory i.args) ∧ a.holds C.prog (lone (Frame.enter C.prog f i.args .normal) [] (w.forCall tape i)))
    (contract : ∀ (W : World) (base : Nat) (args : Array Value) (ds gs : List (DataW H)) (before : List MemPlace),
      (∀ (j : Nat) t v, fn.params[j]? = some t → args[j]? = some v → Value.okWide C.prog W .any base t v) →
      DataW.Whole enc C.prog fn.params.toList s.vars apart W args.toList ds gs before →
      conds.all (PathCond.test C.prog ⟨fn.params.toList, ds, s.plain.varTypes C.prog, gs⟩) = true →
      (DataW.weightsEach C.prog (fn.params.toList ++ s.plain.varTypes C.prog) (ds ++ gs)).all (· ≤ reachBytes) = true → X W args ∧ W.ShapedOpen C.prog →
      a.holds C.prog (lone (Frame.enter C.prog f args .normal) [] W) →
      Calls C.prog f args W fun e W' => ∃ v, e = .returned v ∧ s.post enc C.prog fn apart fresh handsOn again W args v W') :
    ReturnsInHanded a C os f .any (fun w args => (s.pre enc C.prog fn conds apart w args ∧ X w args) ∧ sizedMet enc C.prog fn (OpenSpec.ofChange s) apart w args) (s.post enc C.prog fn apart fresh handsOn again) := by
  refine returnsInHanded_of_calls own started noInit witness ?_
  intro w tape i _ hsh _ hok hpre hholds
  obtain ⟨_, _, _, fn', hfn', _, _, _, _, hval⟩ := hok
  have e : fn' = fn := Option.some.inj (hfn'.symm.trans hfn)
  subst e
  obtain ⟨⟨⟨ds, gs, before, hw, hc⟩, hx⟩, hz⟩ := hpre
  have hw' := DataW.Whole.of_heap (w' := w.forCall tape i) (by rfl) hw
  refine (contract (w.forCall tape i) w.heap.size i.args ds gs before hval hw' hc (hz.weights hw) ⟨hX _ _ _ (by rfl) hx, hsh⟩ hholds).mono fun e W' ⟨v, he, hp⟩ => ?_
  subst he
  exact ChangeSpec.post_blind hp
end Go.Proofs.YtcccapeaeehjiaaGreatDoor.AM
