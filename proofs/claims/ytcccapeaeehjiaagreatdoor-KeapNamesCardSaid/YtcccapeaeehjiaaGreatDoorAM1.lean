/- Calls where tables of the library's are known. -/
import Derived.Test.YtcccapeaeehjiaaGreatDoorAMz
import Derived.Lib.Index
namespace Go.Proofs.YtcccapeaeehjiaaGreatDoor.AM
noncomputable section
open Go Go.RowKit
set_option linter.unusedVariables false
set_option linter.unusedSimpArgs false
/-- A package variable that is a table of numbers. -/
structure Tab where
  g : Nat
  k : IntKind
  ns : List Int
  /-- one number, that is not known -/
  tok : Bool := false
def Tab.cells (t : Tab) : List Value := if t.tok then [.chan (some 1000)] else t.ns.map (Value.int t.k)
def TabM (ts : List Tab) (mx : Int) (w : World) : Prop := ∀ t ∈ ts, t.ns ≠ [] ∧ (t.tok = false → ∀ (j : Nat) (n : Int), t.ns[j]? = some n → w.cell? ⟨t.g, j, none⟩ = some (.int t.k n)) ∧ (t.tok = true → w.cell? ⟨t.g, 0, none⟩ = some (.int .i64 mx))
def TabC (ts : List Tab) (w : World) : Prop := ∃ mx, TabM ts mx w
def FlatCallG (ts : List Tab) (P : Program) (f : FuncId) (args : List Value) (v : Value) : Prop := ∀ w : World, TabC ts w → Calls P f args.toArray w fun e w' => e = .returned v ∧ Below w.heap.size w w'
theorem FlatCallG.of {ts : List Tab} {P : Program} {f : FuncId} {args : List Value} {v : Value} (h : FlatCall P f args v) : FlatCallG ts P f args v := fun w _ => h w
def hTab : List Tab → Tr AObj
  | [] => .leaf
  | t :: l => (hTab l).set t.g (some ⟨t.cells, 0, false, 0⟩)
theorem get_hTab : ∀ {ts : List Tab} {i : Nat} {o : AObj}, (hTab ts).get i = some o → ∃ t ∈ ts, t.g = i ∧ o = ⟨t.cells, 0, false, 0⟩
  | [], i, o, h => by cases h
  | t :: l, i, o, h => by
    unfold hTab at h
    rw [Tr.get_set] at h
    split at h
    · rename_i hi; injection h with h; exact ⟨t, List.mem_cons_self, hi.symm, h.symm⟩
    · obtain ⟨q, h1, h2⟩ := get_hTab h; exact ⟨q, List.mem_cons_of_mem _ h1, h2⟩
/-- What is known, with tables: gl is right about them. -/
def GvG (ts : List Tab) (gl : Gv) : Prop := gl.g = fun i => ts.any fun t => Nat.beq t.g i
def mTab (ts : List Tab) (wv : Nat → IntKind × Int) : M := ⟨fun i => ∃ t ∈ ts, t.g = i, fun i => ⟨i, 0, none⟩, fun _ => 0, fun _ => 0, wv⟩
theorem relTab {ts : List Tab} {mx : Int} {w : World} (h : TabM ts mx w) (wv : Nat → IntKind × Int) (hwv : wv 1000 = (.i64, mx)) : Rel (fun g => g < w.heap.size) w (mTab ts wv) (hTab ts) w := by
  refine ⟨Keep.refl _ _, fun g hg => hg, ?_, ?_, ?_, ?_, ?_⟩
  · intro i o ho
    obtain ⟨t, h1, h2, _⟩ := get_hTab ho
    exact ⟨t, h1, h2⟩
  · intro i o ho
    obtain ⟨t, h1, h2, rfl⟩ := get_hTab ho
    rfl
  · intro i o ho hown
    obtain ⟨t, h1, h2, rfl⟩ := get_hTab ho
    cases hown
  · intro i o ho hown
    obtain ⟨t, h1, rfl, rfl⟩ := get_hTab ho
    obtain ⟨hne, hc, hc2⟩ := h t h1
    cases htk : t.tok with
    | true =>
      have hc2 := hc2 htk
      refine ⟨World.block_lt_of_cell? w ⟨t.g, 0, none⟩ hc2, fun j v hv => ?_⟩
      have e : t.cells = [.chan (some 1000)] := by unfold Tab.cells; rw [if_pos htk]
      simp only [e] at hv
      cases j with
      | succ j => simp at hv
      | zero =>
        simp only [List.getElem?_cons_zero, Option.some.injEq] at hv
        subst hv
        refine ⟨.int .i64 mx, ?_, ?_⟩
        · unfold mv mTab
          simpa using hc2
        · have := CR.tok (m := mTab ts wv) 1000
          have e2 : (mTab ts wv).wv 1000 = (.i64, mx) := hwv
          rw [e2] at this
          exact this
    | false =>
      have hc := hc htk
      refine ⟨?_, fun j v hv => ?_⟩
      · obtain ⟨n, hn⟩ : ∃ n, t.ns[0]? = some n := by
          cases hq : t.ns with
          | nil => exact absurd hq hne
          | cons n l => exact ⟨n, rfl⟩
        exact World.block_lt_of_cell? w ⟨t.g, 0, none⟩ (hc 0 n hn)
      · have e : t.cells = t.ns.map (Value.int t.k) := by unfold Tab.cells; rw [if_neg (by rw [htk]; simp)]
        simp only [e] at hv
        rw [List.getElem?_map] at hv
        obtain ⟨n, hn, rfl⟩ := Option.map_eq_some_iff.1 hv
        refine ⟨.int t.k n, ?_, .flat rfl⟩
        have := hc j n hn
        unfold mv mTab
        simpa using this
  · intro i k oi ok hi hk ho
    obtain ⟨t, h1, h2, rfl⟩ := get_hTab hi
    cases ho
theorem glTab {ts : List Tab} {gl : Gv} (hg : GvG ts gl) : GL gl (mTab ts gl.wv) := by
  refine ⟨fun g h => ?_, rfl⟩
  rw [hg] at h
  obtain ⟨t, h1, h2⟩ := List.any_eq_true.1 h
  exact ⟨⟨t, h1, Nat.eq_of_beq_eq_true h2⟩, rfl⟩
/-- A call where tables are known, and some arguments are tokens. -/
theorem call_byG {P : Program} {gl : Int → Gv} {ts : List Tab} {call : Int → CallF} (hc : ∀ mx, CallOK P (gl mx) (call mx)) (hg : ∀ mx, GvG ts (gl mx)) (hw1 : ∀ mx, (gl mx).wv 1000 = (.i64, mx)) {f : FuncId} {args args' : List Value} {v : Value} (n : Nat) (hn : ts.all (fun t => decide (t.g < n)) = true) (ha : ∀ (mx : Int) (m : M), m.wv = (gl mx).wv → L2 (VR m) args args') (hv : flatV v = true)
    (e : ∀ mx, (call mx f args n (hTab ts)).map (fun r => r.1) = some v) : FlatCallG ts P f args' v := by
  intro w hw
  obtain ⟨mx, hw⟩ := hw
  obtain ⟨⟨v1, n', h'⟩, h1, h2⟩ := Option.map_eq_some_iff.1 (e mx)
  simp only at h2
  subst h2
  refine Calls.mono ((hc mx).ok h1 (relTab hw (gl mx).wv (hw1 mx)) (glTab (hg mx)) (ha mx _ rfl) (fun i h3 _ hd => ?_)) ?_
  · obtain ⟨t, k1, rfl⟩ := hd
    have := List.all_eq_true.1 hn t k1
    simp only [decide_eq_true_eq] at this
    omega
  · rintro x w' ⟨m', v', rfl, x1, d1, r1, R1⟩
    rw [flatV_eq hv r1]
    exact ⟨rfl, R1.below.os, R1.below.tape, R1.below.output, R1.below.size, R1.below.block⟩
/-! ### a table of such calls -/
noncomputable def sameInts (k : IntKind) (ns : List Int) : List Value → Bool := List.rec (motive := fun _ => List Value → Bool) (fun l => List.casesOn (motive := fun _ => Bool) l true (fun _ _ => false))
  (fun n _ f l => List.casesOn (motive := fun _ => Bool) l false (fun v r => Option.rec (motive := fun _ => Bool) false (fun b => sel b (f r) false) (onInt v fun k' a => some (sel (kEq k k') (iEq n a) false)))) ns
theorem sameInts_ok : ∀ {k : IntKind} {ns : List Int} {l : List Value}, sameInts k ns l = true → l = ns.map (Value.int k)
  | k, [], [], _ => rfl
  | k, [], _ :: _, h => by cases h
  | k, _ :: _, [], h => by cases h
  | k, n :: ns, v :: r, h => by
    have h : Option.rec (motive := fun _ => Bool) false (fun b => sel b (sameInts k ns r) false) (onInt v fun k' a => some (sel (kEq k k') (iEq n a) false)) = true := h
    cases ho : (onInt v fun k' a => some (sel (kEq k k') (iEq n a) false)) with
    | none => rw [ho] at h; cases h
    | some b =>
      rw [ho] at h
      have h9 : sel b (sameInts k ns r) false = true := h
      clear h
      obtain ⟨k', a, rfl, hb⟩ := onInt_some ho
      injection hb with hb
      rw [sel_eq] at h9
      split at h9
      · rename_i hbt
        rw [hbt, sel_eq] at hb
        split at hb
        · rename_i hk
          have := kEq_eq hk
          subst this
          rw [iEq_eq, decide_eq_true_eq] at hb
          subst hb
          rw [sameInts_ok h9]; rfl
        · cases hb
      · cases h9
def isTk : List Value → Bool
  | [.chan (some 1000)] => true
  | _ => false
theorem isTk_ok {l : List Value} (h : isTk l = true) : l = [.chan (some 1000)] := by
  unfold isTk at h
  split at h
  · rfl
  · cases h
noncomputable def tabIs (t : Tab) (l : List Value) : Bool := sel t.tok (isTk l) (sameInts t.k t.ns l)
theorem tabIs_ok {t : Tab} {l : List Value} (h : tabIs t l = true) : l = t.cells := by
  unfold tabIs at h
  rw [sel_eq] at h
  unfold Tab.cells
  split at h
  · rename_i ht; rw [if_pos ht]; exact isTk_ok h
  · rename_i ht; rw [if_neg ht]; exact sameInts_ok h
noncomputable def tabsThere (h : Tr AObj) (ts : List Tab) : Bool := List.rec (motive := fun _ => Bool) true (fun t _ r => Option.rec (motive := fun _ => Bool) false (fun o => sel (tabIs t o.cells) r false) (h.get t.g)) ts
theorem tabsThere_ok {h : Tr AObj} : ∀ {ts : List Tab}, tabsThere h ts = true → ∀ t ∈ ts, ∃ o, h.get t.g = some o ∧ o.cells = t.cells
  | [], _, t, ht => by cases ht
  | t :: ts, e, q, hq => by
    have e : Option.rec (motive := fun _ => Bool) false (fun o => sel (tabIs t o.cells) (tabsThere h ts) false) (h.get t.g) = true := e
    cases ho : h.get t.g with
    | none => rw [ho] at e; cases e
    | some o =>
      rw [ho] at e
      have e : sel (tabIs t o.cells) (tabsThere h ts) false = true := e
      rw [sel_eq] at e
      split at e
      · rename_i hs
        rcases List.mem_cons.1 hq with rfl | hq
        · exact ⟨o, ho, tabIs_ok hs⟩
        · exact tabsThere_ok e q hq
      · cases e
noncomputable def knownG (ts : List Tab) (l : List Known) : SumT := fun f args nx h => if l.any (fun k => Nat.beq k.f f) then (match specOf l f args with
  | some v => if args.all flatV && flatV v && tabsThere h ts then some (some (v, nx, h)) else none
  | none => none) else none
theorem knownG_ok {P : Program} {gl : Gv} {ts : List Tab} {l : List Known} (hg : GvG ts gl) (hk : (gl.wv 1000).1 = .i64) (hne : ts.all (fun t => !t.ns.isEmpty) = true) (hl : ∀ k ∈ l, FlatCallG ts P k.f (argOf k.s) k.v) : TOK P gl (knownG ts l) := by
  have inv : ∀ {f : FuncId} {args : List Value} {nx : Nat} {h : Tr AObj} {v : Value} {n' : Nat} {h' : Tr AObj}, (knownG ts l f args nx h).getD none = some (v, n', h') → FlatCallG ts P f args v ∧ args.all flatV = true ∧ flatV v = true ∧ tabsThere h ts = true ∧ n' = nx ∧ h' = h := by
    intro f args nx h v n' h' e
    unfold knownG at e
    split at e
    · split at e
      · rename_i u hu
        split at e
        · rename_i hc
          simp only [Bool.and_eq_true] at hc
          simp only [Option.getD_some, Option.some.injEq, Prod.mk.injEq] at e
          obtain ⟨rfl, rfl, rfl⟩ := e
          refine ⟨?_, hc.1.1, hc.1.2, hc.2, rfl, rfl⟩
          unfold specOf at hu
          split at hu
          · obtain ⟨k, h1, rfl, h3, rfl⟩ := knownAt_mem hu
            have := hl k h1
            rw [h3] at this
            exact this
          · rename_i s
            obtain ⟨k, h1, rfl, h3, rfl⟩ := knownAt_mem hu
            have := hl k h1
            rw [h3] at this
            exact this
          · cases hu
        · cases e
      · cases e
    · cases e
  refine ⟨fun e => ?_, fun e R G ha hf => ?_⟩
  · obtain ⟨_, _, _, _, rfl, _⟩ := inv e
    exact Nat.le_refl _
  · rename_i f args args' nx h v n' h' F w0 w m
    obtain ⟨h1, h2, h3, h4, rfl, rfl⟩ := inv e
    rw [args_flat ha h2]
    have hT : TabC ts w := by
      refine ⟨(gl.wv 1000).2, fun t ht => ?_⟩
      have hn0 := List.all_eq_true.1 hne t ht
      obtain ⟨o, ho, hcs⟩ := tabsThere_ok h4 t ht
      have hgl : gl.g t.g = true := by
        rw [hg]
        exact List.any_eq_true.2 ⟨t, ht, Nat.beq_refl _⟩
      obtain ⟨hd, hloc⟩ := G.1 t.g hgl
      refine ⟨fun q => (by rw [q] at hn0; cases hn0), fun htk j n hn => ?_, fun htk => ?_⟩
      · have hv : aget h' t.g j = some (.int t.k n) := by
          unfold aget
          rw [ho, Option.bind_some, hcs]
          unfold Tab.cells
          rw [if_neg (by rw [htk]; simp), List.getElem?_map, hn]; rfl
        obtain ⟨v', k1, k2⟩ := aget_sound (a := ⟨t.g, j, none⟩) R hv
        have : v' = .int t.k n := flatC_eq rfl k2
        subst this
        have hmv : mv m ⟨t.g, j, none⟩ = ⟨t.g, j, none⟩ := by unfold mv; rw [hloc]; simp
        rw [hmv] at k1
        exact k1
      · have hv : aget h' t.g 0 = some (.chan (some 1000)) := by
          unfold aget
          rw [ho, Option.bind_some, hcs]
          unfold Tab.cells
          rw [if_pos htk]; rfl
        obtain ⟨v', k1, k2⟩ := aget_sound (a := ⟨t.g, 0, none⟩) R hv
        have k3 := (VR.cell k2).inv_tok
        have hmv : mv m ⟨t.g, 0, none⟩ = ⟨t.g, 0, none⟩ := by unfold mv; rw [hloc]; simp
        rw [hmv, k3, G.2, hk] at k1
        exact k1
    refine Calls.mono (h1 w hT) ?_
    rintro x w' ⟨rfl, hb⟩
    refine ⟨m, v, rfl, Ext.refl m, Dom.refl m _, flatV_VR m h3, ?_⟩
    exact R.same ⟨hb.os, hb.tape, hb.output, hb.size, fun k hk => hb.block k (R.base_le k hk)⟩ (fun i o ho hown => hb.block _ (R.own_lt i o ho hown))
/-- no tokens but the unknown number, these tables -/
def gTab (ts : List Tab) (mx : Int) : Gv := ⟨fun i => ts.any fun t => Nat.beq t.g i, fun _ => (.i64, mx), fun _ _ => none⟩
theorem gTab_ok {P : Program} (ts : List Tab) (mx : Int) (h : NoNG P) : Base P (gTab ts mx) := ⟨h, fun e => (by cases e)⟩
theorem flatG_by {P : Program} {ts : List Tab} {call : Int → CallF} (hc : ∀ mx, CallOK P (gTab ts mx) (call mx)) {f : FuncId} {args : List Value} {v : Value} (n : Nat) (hn : ts.all (fun t => decide (t.g < n)) = true) (ha : (args.all flatV && flatV v) = true) (e : ∀ mx, (call mx f args n (hTab ts)).map (fun r => r.1) = some v) : FlatCallG ts P f args v := by
  simp only [Bool.and_eq_true] at ha
  exact call_byG hc (fun _ => rfl) (fun _ => rfl) n hn (fun _ m _ => L2.self_flat ha.1) ha.2 e
/-- an index token, and tables -/
def idxGvG (ts : List Tab) (a n i : Int) (mx : Int) : Gv := ⟨fun i => ts.any fun t => Nat.beq t.g i, fun k => if k = 1000 then (.i64, mx) else (idxGv a n i).wv k, idxTk n i⟩
theorem idxG_ok {P : Program} (ts : List Tab) (hng : NoNG P) (a n i mx : Int) (hn : 0 < n) (hi : (a % 256) % n = i) : Base P (idxGvG ts a n i mx) := by
  refine ⟨hng, ?_⟩
  intro o ρ r m ρ' w e hw hρ
  replace e : idxTk n i o ρ = some r := e
  have w0 : m.wv 0 = (.i64, a) := by rw [hw]; rfl
  have w1 : m.wv 1 = (.i64, a % 256) := by rw [hw]; rfl
  unfold idxTk at e
  split at e
  · rename_i t x y yt ho
    split at e
    · rename_i b hx hy
      split at e
      · rename_i hb
        subst hb
        injection e with e
        subst e
        have h1 := (hρ x _ hx).inv_tok
        have h2 := (hρ y _ hy).inv_int
        rw [w0] at h1
        refine ⟨.int .i64 (a % 256), ?_, ?_⟩
        · unfold execOp
          rw [ho]
          simp only [h1, h2]
          show (do eqGuard .and t x y (.int .i64 a) (.int .i64 255); let v ← binOp .and t (.int .i64 a) (.int .i64 255); pure (Next.value v) : Sem Next).run P w = _
          have hg : (eqGuard .and t x y (.int .i64 a) (.int .i64 255)).run P w = .ok () w := rfl
          have hb : (binOp .and t (.int .i64 a) (.int .i64 255)).run P w = .ok (.int .i64 (a % 256)) w := by
            rw [← and255 a]; rfl
          simp only [Sem.run_bind, hg, hb, Result.andThen_ok, Sem.run_pure]
        · have := VR.cell (CR.tok (m := m) 1)
          rw [w1] at this
          exact this
      · cases e
    · cases e
  · rename_i t x y yt ho
    split at e
    · rename_i b hx hy
      split at e
      · rename_i hb
        subst hb
        injection e with e
        subst e
        have h1 := (hρ x _ hx).inv_tok
        have h2 := (hρ y _ hy).inv_int
        rw [w1] at h1
        refine ⟨.int .i64 i, ?_, VR.flat rfl⟩
        unfold execOp
        rw [ho]
        simp only [h1, h2]
        show (do eqGuard .rem t x y (.int .i64 (a % 256)) (.int .i64 b); let v ← binOp .rem t (.int .i64 (a % 256)) (.int .i64 b); pure (Next.value v) : Sem Next).run P w = _
        have hg : (eqGuard .rem t x y (.int .i64 (a % 256)) (.int .i64 b)).run P w = .ok () w := rfl
        have hb : (binOp .rem t (.int .i64 (a % 256)) (.int .i64 b)).run P w = .ok (.int .i64 i) w := by
          have h0 : ¬ b = 0 := by omega
          have h3 : (a % 256).tmod b = i := by
            rw [Int.tmod_eq_emod_of_nonneg (by omega)]; exact hi
          have : binOp .rem t (.int .i64 (a % 256)) (.int .i64 b) = pure (.int .i64 ((a % 256).tmod b)) := by
            simp [binOp, Op.intDiv, h0]
          rw [this, h3]; rfl
        simp only [Sem.run_bind, hg, hb, Result.andThen_ok, Sem.run_pure]
      · cases e
    · cases e
  · cases e
/-- It keeps to the ints. -/
theorem idxG_arg (ts : List Tab) (a n i mx : Int) (m : M) (h : m.wv = (idxGvG ts a n i mx).wv) : L2 (VR m) [.chan (some 0)] [.int .i64 a] := by
  have := VR.cell (CR.tok (m := m) 0)
  have w0 : m.wv 0 = (.i64, a) := by rw [h]; rfl
  rw [w0] at this
  exact .cons this .nil
/-! ### strings.Index, out of its contract -/
def IndexC (P : Program) (f g : Nat) : Prop := ∀ (s sub : ByteArray) (m : Int) (w : World), s.size < 4294967281 → w.cell? ⟨g, 0, none⟩ = some (.int .i64 m) → Calls P f #[.string s, .string sub] w fun e w' => e = .returned (.int .i64 (Lib.index s.data.toList sub.data.toList)) ∧ w' = w
def hasTk (h : Tr AObj) (g : Nat) : Bool := match h.get g with
  | some o => isTk o.cells
  | none => false
def indexT (f g : Nat) : SumT := fun f' args nx h => if Nat.beq f f' then match args with
  | [.string s, .string b] => if hasTk h g && decide (s.size < 4294967281) then some (some (.int .i64 (Lib.index s.data.toList b.data.toList), nx, h)) else none
  | _ => none
  else none
theorem indexT_ok {P : Program} {gl : Gv} {f g : Nat} (hg : gl.g g = true) (hk : (gl.wv 1000).1 = .i64) (hC : IndexC P f g) : TOK P gl (indexT f g) := by
  have inv : ∀ {f' : FuncId} {args : List Value} {nx : Nat} {h : Tr AObj} {v : Value} {n' : Nat} {h' : Tr AObj}, (indexT f g f' args nx h).getD none = some (v, n', h') → f = f' ∧ ∃ s b, args = [.string s, .string b] ∧ hasTk h g = true ∧ s.size < 4294967281 ∧ v = .int .i64 (Lib.index s.data.toList b.data.toList) ∧ n' = nx ∧ h' = h := by
    intro f' args nx h v n' h' e
    unfold indexT at e
    split at e
    · rename_i hf
      split at e
      · rename_i s b
        split at e
        · rename_i hc
          simp only [Bool.and_eq_true, decide_eq_true_eq] at hc
          simp only [Option.getD_some, Option.some.injEq, Prod.mk.injEq] at e
          exact ⟨Nat.eq_of_beq_eq_true hf, s, b, rfl, hc.1, hc.2, e.1.symm, e.2.1.symm, e.2.2.symm⟩
        · cases e
      · cases e
    · cases e
  refine ⟨fun {f' args nx h v n' h'} e => ?_, fun {f' args args' nx h v n' h' F w0 w m} e R G ha hf => ?_⟩
  · obtain ⟨_, _, _, _, _, _, _, h1, _⟩ := inv e
    omega
  · obtain ⟨rfl, s, b, rfl, hT, hs, rfl, rfl, rfl⟩ := inv e
    have ha2 := args_flat ha rfl
    subst ha2
    obtain ⟨hd, hloc⟩ := G.1 g hg
    have hc : w.cell? ⟨g, 0, none⟩ = some (.int .i64 (gl.wv 1000).2) := by
      unfold hasTk at hT
      split at hT
      · rename_i o ho
        have hv : aget h' g 0 = some (.chan (some 1000)) := by
          unfold aget
          rw [ho, Option.bind_some, isTk_ok hT]; rfl
        obtain ⟨v', k1, k2⟩ := aget_sound (a := ⟨g, 0, none⟩) R hv
        have k3 := (VR.cell k2).inv_tok
        have hmv : mv m ⟨g, 0, none⟩ = ⟨g, 0, none⟩ := by unfold mv; rw [hloc]; simp
        rw [hmv, k3, G.2, hk] at k1
        exact k1
      · cases hT
    refine Calls.mono (hC s b _ w hs hc) ?_
    rintro x w' ⟨rfl, rfl⟩
    exact ⟨m, _, rfl, Ext.refl m, Dom.refl m _, VR.flat rfl, R⟩
end
end Go.Proofs.YtcccapeaeehjiaaGreatDoor.AM
