/- Calls that are known together with what they read and leave in memory. -/
import Derived.Test.YtcccapeaeehjiaaGreatDoorAM1
namespace Go.Proofs.YtcccapeaeehjiaaGreatDoor.AM
noncomputable section
open Go Go.RowKit
set_option linter.unusedVariables false
set_option linter.unusedSimpArgs false
/-! ### values that are written down -/
inductive LV where
  | i (k : IntKind) (n : Int)
  | b (x : Bool)
  | s (l : List Nat)
  | p (x y : Nat)
  | pn
  | sl (x y n c : Nat)
  | sn
def LV.val : LV → Value
  | .i k n => .int k n
  | .b x => .bool x
  | .s l => .string ⟨⟨l.map UInt8.ofNat⟩⟩
  | .p x y => .pointer (some ⟨x, y, none⟩)
  | .pn => .pointer none
  | .sl x y n c => .slice (some ⟨x, y, none⟩) n c
  | .sn => .slice none 0 0
noncomputable def yes (o : Option Bool) : Bool := Option.rec (motive := fun _ => Bool) false (fun b => b) o
theorem yes_some {o : Option Bool} (h : yes o = true) : o = some true := by
  cases o with
  | none => cases h
  | some b => exact congrArg some h
noncomputable def natsEq (l : List Nat) : List UInt8 → Bool := List.rec (motive := fun _ => List UInt8 → Bool) (fun l => List.casesOn (motive := fun _ => Bool) l true (fun _ _ => false))
  (fun n _ f l => List.casesOn (motive := fun _ => Bool) l false (fun b r => sel (Nat.beq n b.toNat) (f r) false)) l
theorem natsEq_ok : ∀ {l : List Nat} {k : List UInt8}, natsEq l k = true → k = l.map UInt8.ofNat
  | [], [], _ => rfl
  | [], _ :: _, h => by cases h
  | _ :: _, [], h => by cases h
  | n :: l, b :: k, h => by
    have h : sel (Nat.beq n b.toNat) (natsEq l k) false = true := h
    rw [sel_eq] at h
    split at h
    · rename_i hn
      have := Nat.eq_of_beq_eq_true hn
      rw [natsEq_ok h, List.map_cons, this]
      simp
    · cases h
noncomputable def adr (x y : Nat) (a : Addr) : Bool := sel (Nat.beq x a.block) (sel (Nat.beq y a.off) (Option.rec (motive := fun _ => Bool) true (fun _ => false) a.spot) false) false
theorem adr_ok {x y : Nat} {a : Addr} (h : adr x y a = true) : a = ⟨x, y, none⟩ := by
  obtain ⟨u, v, s⟩ := a
  unfold adr at h
  rw [sel_eq] at h
  split at h
  · rename_i h1
    rw [sel_eq] at h
    split at h
    · rename_i h2
      have e1 := Nat.eq_of_beq_eq_true h1
      have e2 := Nat.eq_of_beq_eq_true h2
      cases s with
      | none => simp only at e1 e2; rw [e1, e2]
      | some _ => cases h
    · cases h
  · cases h
noncomputable def isPN (v : Value) : Bool :=
  Value.casesOn (motive_1 := fun _ => Bool) v (fun _ => false) (fun _ _ => false) (fun _ _ => false) (fun _ _ _ => false) (fun _ => false) (fun a => Option.rec (motive := fun _ => Bool) true (fun _ => false) a) (fun _ _ _ => false) (fun _ => false) (fun _ => false) (fun _ _ _ => false) false (fun _ _ => false) false (fun _ => false) (fun _ => false)
theorem isPN_ok {v : Value} (h : isPN v = true) : v = .pointer none := by
  cases v with
  | pointer a => cases a with
    | none => rfl
    | some _ => cases h
  | _ => cases h
noncomputable def bEqB (a b : Bool) : Bool := sel a b (sel b false true)
theorem bEqB_ok {a b : Bool} (h : bEqB a b = true) : a = b := by cases a <;> cases b <;> first | rfl | cases h
noncomputable def LV.is (x : LV) (v : Value) : Bool := LV.rec (motive := fun _ => Bool)
  (fun k n => yes (onInt v fun k' n' => some (sel (kEq k k') (iEq n n') false)))
  (fun b => yes (onBool v fun b' => some (bEqB b b')))
  (fun l => yes (onStr v fun s => some (natsEq l s.data.toList)))
  (fun x y => yes (onPtr v fun a => some (adr x y a)))
  (isPN v)
  (fun x y n c => yes (onSlc v fun a n' c' => ob a fun a => some (sel (adr x y a) (sel (Nat.beq n n') (Nat.beq c c') false) false)))
  (yes (onSlc v fun a n c => Option.rec (motive := fun _ => Option Bool) (some (sel (Nat.beq 0 n) (Nat.beq 0 c) false)) (fun _ => none) a)) x
theorem sel_and {a b : Bool} (h : sel a b false = true) : a = true ∧ b = true := by
  rw [sel_eq] at h
  split at h
  · rename_i ha; exact ⟨ha, h⟩
  · cases h
theorem LV.is_ok {x : LV} {v : Value} (h : x.is v = true) : v = x.val := by
  cases x with
  | i k n =>
    obtain ⟨k', n', rfl, h2⟩ := onInt_some (yes_some h)
    injection h2 with h2
    obtain ⟨h3, h4⟩ := sel_and h2
    rw [iEq_eq, decide_eq_true_eq] at h4
    rw [kEq_eq h3, h4]; rfl
  | b x =>
    obtain ⟨b', rfl, h2⟩ := onBool_some (yes_some h)
    injection h2 with h2
    rw [bEqB_ok h2]; rfl
  | s l =>
    obtain ⟨s, rfl, h2⟩ := onStr_some (yes_some h)
    injection h2 with h2
    obtain ⟨⟨d⟩⟩ := s
    have := natsEq_ok h2
    simp only at this
    rw [this]; rfl
  | p x y =>
    obtain ⟨a, rfl, h2⟩ := onPtr_some (yes_some h)
    injection h2 with h2
    rw [adr_ok h2]; rfl
  | pn => exact isPN_ok h
  | sl x y n c =>
    obtain ⟨a, n', c', rfl, h2⟩ := onSlc_some (yes_some h)
    obtain ⟨a', rfl, h3⟩ := ob_some h2
    injection h3 with h3
    obtain ⟨h4, h5⟩ := sel_and h3
    obtain ⟨h6, h7⟩ := sel_and h5
    rw [adr_ok h4, ← Nat.eq_of_beq_eq_true h6, ← Nat.eq_of_beq_eq_true h7]; rfl
  | sn =>
    obtain ⟨a, n', c', rfl, h2⟩ := onSlc_some (yes_some h)
    cases a with
    | none =>
      replace h2 : some (sel (Nat.beq 0 n') (Nat.beq 0 c') false) = some true := h2
      injection h2 with h2
      obtain ⟨h6, h7⟩ := sel_and h2
      rw [← Nat.eq_of_beq_eq_true h6, ← Nat.eq_of_beq_eq_true h7]; rfl
    | some _ => cases h2
noncomputable def allIs {α : Type} (f : α → Value → Bool) (l : List α) : List Value → Bool := List.rec (motive := fun _ => List Value → Bool) (fun vs => List.casesOn (motive := fun _ => Bool) vs true (fun _ _ => false))
  (fun x _ g vs => List.casesOn (motive := fun _ => Bool) vs false (fun v r => sel (f x v) (g r) false)) l
theorem allIs_ok {α : Type} {f : α → Value → Bool} {val : α → Value} (hf : ∀ x v, f x v = true → v = val x) : ∀ {l : List α} {vs : List Value}, allIs f l vs = true → vs = l.map val
  | [], [], _ => rfl
  | [], _ :: _, h => by cases h
  | _ :: _, [], h => by cases h
  | x :: l, v :: vs, h => by
    obtain ⟨h1, h2⟩ := sel_and (show sel (f x v) (allIs f l vs) false = true from h)
    rw [hf x v h1, allIs_ok hf h2]; rfl
inductive LA where
  | c (v : LV)
  | g (l : List LV)
def LA.val : LA → Value
  | .c v => v.val
  | .g l => .agg ⟨l.map LV.val⟩
noncomputable def LA.is (x : LA) (v : Value) : Bool := LA.rec (motive := fun _ => Bool) (fun x => x.is v) (fun l => yes (onAgg v fun vs => some (allIs LV.is l vs))) x
theorem LA.is_ok {x : LA} {v : Value} (h : x.is v = true) : v = x.val := by
  cases x with
  | c x => exact LV.is_ok h
  | g l =>
    obtain ⟨⟨a⟩, rfl, h2⟩ := onAgg_some (yes_some h)
    injection h2 with h2
    have : a = l.map LV.val := allIs_ok (fun _ _ h => LV.is_ok h) h2
    rw [this]; rfl
inductive LR where
  | o (x : LA)
  | t (l : List LA)
def LR.val : LR → Value
  | .o x => x.val
  | .t l => .tuple ⟨l.map LA.val⟩
noncomputable def LR.is (x : LR) (v : Value) : Bool := LR.rec (motive := fun _ => Bool) (fun x => x.is v) (fun l => yes (onTup v fun vs => some (allIs LA.is l vs.toList))) x
theorem LR.is_ok {x : LR} {v : Value} (h : x.is v = true) : v = x.val := by
  cases x with
  | o x => exact LA.is_ok h
  | t l =>
    obtain ⟨⟨a⟩, rfl, h2⟩ := onTup_some (yes_some h)
    injection h2 with h2
    have : a = l.map LA.val := allIs_ok (fun _ _ h => LA.is_ok h) h2
    rw [this]; rfl
/-! ### blocks that are written down -/
inductive LC where
  | vs (a : List LV)
  | bs (a : List Nat)
def byteV (n : Nat) : Value := .int .u8 (Int.ofNat n)
noncomputable def byteIs (n : Nat) (v : Value) : Bool := yes (onInt v fun k a => some (sel (kEq .u8 k) (iEq (Int.ofNat n) a) false))
theorem byteIs_ok {n : Nat} {v : Value} (h : byteIs n v = true) : v = byteV n := by
  obtain ⟨k', n', rfl, h2⟩ := onInt_some (yes_some h)
  injection h2 with h2
  obtain ⟨h3, h4⟩ := sel_and h2
  rw [iEq_eq, decide_eq_true_eq] at h4
  rw [← kEq_eq h3, ← h4]; rfl
def LC.cells : LC → List Value
  | .vs a => a.map LV.val
  | .bs a => a.map byteV
noncomputable def LC.is (x : LC) (q : List Value) : Bool := LC.rec (motive := fun _ => Bool) (fun a => allIs LV.is a q) (fun a => allIs byteIs a q) x
theorem LC.is_ok {x : LC} {q : List Value} (h : x.is q = true) : q = x.cells := by
  cases x with
  | vs x => exact allIs_ok (fun _ _ h => LV.is_ok h) h
  | bs x => exact allIs_ok (fun _ _ h => byteIs_ok h) h
structure LRow where
  b : Nat
  elem : Nat
  own : Bool
  es : Nat
  c : LC
def LRow.obj (r : LRow) : AObj := ⟨r.c.cells, r.elem, r.own, r.es⟩
noncomputable def LRow.at (r : LRow) (h : Tr AObj) : Bool := Option.rec (motive := fun _ => Bool) false (fun o => sel (bEqB r.own o.own) (sel (Nat.beq r.elem o.elem) (sel (Nat.beq r.es o.es) (r.c.is o.cells) false) false) false) (h.get r.b)
theorem LRow.at_ok {r : LRow} {h : Tr AObj} (e : r.at h = true) : h.get r.b = some r.obj := by
  unfold LRow.at at e
  cases ho : h.get r.b with
  | none => rw [ho] at e; cases e
  | some o =>
    rw [ho] at e
    obtain ⟨e1, e⟩ := sel_and e
    obtain ⟨e2, e⟩ := sel_and e
    obtain ⟨e3, e⟩ := sel_and e
    obtain ⟨cs, el, ow, es⟩ := o
    have a1 := bEqB_ok e1
    have a2 := Nat.eq_of_beq_eq_true e2
    have a3 := Nat.eq_of_beq_eq_true e3
    have a4 := LC.is_ok e
    simp only at a1 a2 a3 a4
    unfold LRow.obj
    rw [a1, a2, a3, a4]
noncomputable def allAt (h : Tr AObj) (l : List LRow) : Bool := List.rec (motive := fun _ => Bool) true (fun r _ b => sel (r.at h) b false) l
theorem allAt_ok {h : Tr AObj} : ∀ {l : List LRow}, allAt h l = true → ∀ r ∈ l, h.get r.b = some r.obj
  | [], _, r, hr => by cases hr
  | x :: l, e, r, hr => by
    obtain ⟨e1, e2⟩ := sel_and (show sel (x.at h) (allAt h l) false = true from e)
    rcases List.mem_cons.1 hr with rfl | hr
    · exact LRow.at_ok e1
    · exact allAt_ok e2 r hr
def rowsT (h : Tr AObj) : List LRow → Tr AObj
  | [] => h
  | r :: l => (rowsT h l).set r.b (some r.obj)
theorem get_rowsT {h : Tr AObj} : ∀ {l : List LRow} {i : Nat} {o : AObj}, (rowsT h l).get i = some o → (∃ r ∈ l, r.b = i ∧ o = r.obj) ∨ ((∀ r ∈ l, r.b ≠ i) ∧ h.get i = some o)
  | [], i, o, e => .inr ⟨fun _ hr => (by cases hr), e⟩
  | x :: l, i, o, e => by
    unfold rowsT at e
    rw [Tr.get_set] at e
    split at e
    · rename_i hi
      injection e with e
      exact .inl ⟨x, List.mem_cons_self, hi.symm, e.symm⟩
    · rename_i hi
      rcases get_rowsT e with ⟨r, h1, h2⟩ | ⟨h1, h2⟩
      · exact .inl ⟨r, List.mem_cons_of_mem _ h1, h2⟩
      · refine .inr ⟨fun r hr => ?_, h2⟩
        rcases List.mem_cons.1 hr with rfl | hr
        · exact fun e => hi e.symm
        · exact h1 r hr
theorem rowsT_same {h h' : Tr AObj} : ∀ {l : List LRow} {r : LRow}, r ∈ l → (rowsT h l).get r.b = (rowsT h' l).get r.b
  | x :: l, r, hr => by
    unfold rowsT
    rw [Tr.get_set, Tr.get_set]
    split
    · rfl
    · rename_i hi
      rcases List.mem_cons.1 hr with rfl | hr
      · exact absurd rfl hi
      · exact rowsT_same hr
/-! ### calls -/
structure MK where
  f : FuncId
  args : List LA
  nx : Nat
  hin : List LRow
  v : LR
  n' : Nat
  hout : List LRow
def MemCall (P : Program) (ts : List Tab) (k : MK) : Prop := ∀ {F : Nat → Prop} {w0 w : World} {m : M} {args' : List Value}, Rel F w0 m (rowsT (hTab ts) k.hin) w → (∀ g, ts.any (fun t => Nat.beq t.g g) = true → m.dom g ∧ m.loc g = ⟨g, 0, none⟩) → (m.wv 1000).1 = .i64 → L2 (VR m) (k.args.map LA.val) args' → (∀ i, k.nx ≤ i → i < k.n' → ¬ m.dom i) →
  Calls P k.f args'.toArray w fun e w' => ∃ m' v', e = .returned v' ∧ Ext m m' ∧ Dom m k.nx k.n' m' ∧ VR m' k.v.val v' ∧ Rel F w0 m' (rowsT .leaf k.hout) w'
/-- these tables, tokens of any value (of which none occurs) -/
def gTabW (ts : List Tab) (wv : Nat → IntKind × Int) : Gv := ⟨fun i => ts.any fun t => Nat.beq t.g i, wv, fun _ _ => none⟩
theorem gTabW_ok {P : Program} (ts : List Tab) (wv : Nat → IntKind × Int) (h : NoNG P) : Base P (gTabW ts wv) := ⟨h, fun e => (by cases e)⟩
noncomputable def goes (k : MK) (r : Option (Value × Nat × Tr AObj)) : Bool := Option.rec (motive := fun _ => Bool) false (fun r => sel (k.v.is r.1) (sel (Nat.beq k.n' r.2.1) (allAt r.2.2 k.hout) false) false) r
theorem memCall_by {P : Program} {ts : List Tab} {k : MK} {call : (Nat → IntKind × Int) → CallF} (hc : ∀ wv : Nat → IntKind × Int, (wv 1000).1 = .i64 → CallOK P (gTabW ts wv) (call wv)) (e : ∀ wv, goes k (call wv k.f (k.args.map LA.val) k.nx (rowsT (hTab ts) k.hin)) = true) : MemCall P ts k := by
  intro F w0 w m args' R hg hk ha hf
  have e1 := e m.wv
  cases hr : call m.wv k.f (k.args.map LA.val) k.nx (rowsT (hTab ts) k.hin) with
  | none => rw [hr] at e1; cases e1
  | some r =>
    obtain ⟨v, n', h'⟩ := r
    rw [hr] at e1
    obtain ⟨q1, e1⟩ := sel_and e1
    obtain ⟨q2, q3⟩ := sel_and e1
    have hv := LR.is_ok q1
    have hn := Nat.eq_of_beq_eq_true q2
    simp only at hv hn
    subst hv
    rw [← hn] at hr
    refine Calls.mono ((hc m.wv hk).ok hr R ⟨hg, rfl⟩ ha hf) ?_
    rintro x w' ⟨m', v', rfl, x1, d1, r1, R1⟩
    refine ⟨m', v', rfl, x1, d1, r1, R1.sub fun i o ho => ?_⟩
    rcases get_rowsT ho with ⟨r, h1, rfl, rfl⟩ | ⟨_, h2⟩
    · exact allAt_ok q3 r h1
    · cases h2
/-! ### a table of such calls -/
noncomputable def tabAt (h : Tr AObj) (t : Tab) : Bool := Option.rec (motive := fun _ => Bool) false (fun o => sel (tabIs t o.cells) (sel (bEqB false o.own) (sel (Nat.beq 0 o.elem) (Nat.beq 0 o.es) false) false) false) (h.get t.g)
theorem tabAt_ok {h : Tr AObj} {t : Tab} (e : tabAt h t = true) : h.get t.g = some ⟨t.cells, 0, false, 0⟩ := by
  unfold tabAt at e
  cases ho : h.get t.g with
  | none => rw [ho] at e; cases e
  | some o =>
    rw [ho] at e
    obtain ⟨e1, e⟩ := sel_and e
    obtain ⟨e2, e⟩ := sel_and e
    obtain ⟨e3, e⟩ := sel_and e
    obtain ⟨cs, el, ow, es⟩ := o
    have a1 := bEqB_ok e2
    have a2 := Nat.eq_of_beq_eq_true e3
    have a3 := Nat.eq_of_beq_eq_true e
    have a4 := tabIs_ok e1
    simp only at a1 a2 a3 a4
    rw [← a1, ← a2, ← a3, a4]
noncomputable def tabsAt (h : Tr AObj) (l : List Tab) : Bool := List.rec (motive := fun _ => Bool) true (fun r _ b => sel (tabAt h r) b false) l
theorem tabsAt_ok {h : Tr AObj} : ∀ {l : List Tab}, tabsAt h l = true → ∀ r ∈ l, h.get r.g = some ⟨r.cells, 0, false, 0⟩
  | [], _, r, hr => by cases hr
  | x :: l, e, r, hr => by
    obtain ⟨e1, e2⟩ := sel_and (show sel (tabAt h x) (tabsAt h l) false = true from e)
    rcases List.mem_cons.1 hr with rfl | hr
    · exact tabAt_ok e1
    · exact tabsAt_ok e2 r hr
/-- The blocks that the call may turn. -/
def takenOf : List LRow → List Nat
  | [] => []
  | r :: l => if r.own then r.b :: takenOf l else takenOf l
theorem mem_takenOf {i : Nat} : ∀ {l : List LRow}, i ∈ takenOf l → ∃ r ∈ l, r.b = i ∧ r.own = true
  | [], h => by cases h
  | r :: l, h => by
    unfold takenOf at h
    split at h
    · rename_i hr
      rcases List.mem_cons.1 h with rfl | h
      · exact ⟨r, List.mem_cons_self, rfl, hr⟩
      · obtain ⟨q, h1, h2⟩ := mem_takenOf h; exact ⟨q, List.mem_cons_of_mem _ h1, h2⟩
    · obtain ⟨q, h1, h2⟩ := mem_takenOf h; exact ⟨q, List.mem_cons_of_mem _ h1, h2⟩
theorem takenOf_mem : ∀ {l : List LRow} {r : LRow}, r ∈ l → r.own = true → r.b ∈ takenOf l
  | x :: l, r, h, ho => by
    unfold takenOf
    rcases List.mem_cons.1 h with rfl | h
    · rw [if_pos ho]; exact List.mem_cons_self
    · split
      · exact List.mem_cons_of_mem _ (takenOf_mem h ho)
      · exact takenOf_mem h ho
noncomputable def dropT (h : Tr AObj) (T : List Nat) : Tr AObj := List.rec (motive := fun _ => Tr AObj) h (fun i _ t => t.set i none) T
theorem get_dropT {h : Tr AObj} : ∀ {T : List Nat} {i : Nat} {o : AObj}, (dropT h T).get i = some o → i ∉ T ∧ h.get i = some o
  | [], i, o, e => ⟨by simp, e⟩
  | k :: T, i, o, e => by
    have e : ((dropT h T).set k none).get i = some o := e
    rw [Tr.get_set] at e
    split at e
    · cases e
    · rename_i hi
      obtain ⟨h1, h2⟩ := get_dropT e
      exact ⟨by simp [hi, h1], h2⟩
/-- What is written down hangs together: what is left is one's own, and is new or was taken. -/
def MK.fine (k : MK) : Bool := k.hout.all fun r => r.own && ((takenOf k.hin).contains r.b || (decide (k.nx ≤ r.b) && decide (r.b < k.n')))
noncomputable def memT (ts : List Tab) (ks : List MK) : SumT := fun f args nx h => List.rec (motive := fun _ => Option Res) none
  (fun k _ r => sel (sel (Nat.beq k.f f) (sel (Nat.beq k.nx nx) (sel (allIs LA.is k.args args) (sel (allAt h k.hin) (tabsAt h ts) false) false) false) false) (some (some (k.v.val, k.n', rowsT (dropT h (takenOf k.hin)) k.hout))) r) ks
theorem memT_inv {ts : List Tab} {f : FuncId} {args : List Value} {nx : Nat} {h : Tr AObj} {v : Value} {n' : Nat} {h' : Tr AObj} : ∀ {ks : List MK}, (memT ts ks f args nx h).getD none = some (v, n', h') →
    ∃ k ∈ ks, k.f = f ∧ k.nx = nx ∧ args = k.args.map LA.val ∧ allAt h k.hin = true ∧ tabsAt h ts = true ∧ v = k.v.val ∧ n' = k.n' ∧ h' = rowsT (dropT h (takenOf k.hin)) k.hout
  | [], e => by cases e
  | k :: ks, e => by
    have e : (sel (sel (Nat.beq k.f f) (sel (Nat.beq k.nx nx) (sel (allIs LA.is k.args args) (sel (allAt h k.hin) (tabsAt h ts) false) false) false) false) (some (some (k.v.val, k.n', rowsT (dropT h (takenOf k.hin)) k.hout))) (memT ts ks f args nx h)).getD none = some (v, n', h') := e
    rw [sel_eq] at e
    split at e
    · rename_i hc
      obtain ⟨c1, hc⟩ := sel_and hc
      obtain ⟨c2, hc⟩ := sel_and hc
      obtain ⟨c3, hc⟩ := sel_and hc
      obtain ⟨c4, c5⟩ := sel_and hc
      simp only [Option.getD_some, Option.some.injEq, Prod.mk.injEq] at e
      obtain ⟨rfl, rfl, rfl⟩ := e
      exact ⟨k, List.mem_cons_self, Nat.eq_of_beq_eq_true c1, Nat.eq_of_beq_eq_true c2, allIs_ok (fun _ _ h => LA.is_ok h) c3, c4, c5, rfl, rfl, rfl⟩
    · obtain ⟨q, h1, h2⟩ := memT_inv e
      exact ⟨q, List.mem_cons_of_mem _ h1, h2⟩
theorem RelF.sub {F : Nat → Prop} {w0 w : World} {m : M} {hf hf' : Nat → Option AObj} (R : RelF F w0 m hf w) (sub : ∀ i o, hf' i = some o → hf i = some o) : RelF F w0 m hf' w :=
  ⟨R.below, R.base_le, fun i o ho => R.lt i o (sub i o ho), fun i o ho => R.es i o (sub i o ho), fun i o ho => R.own i o (sub i o ho), fun i o ho => R.ro i o (sub i o ho), fun i k oi ok hi hk => R.apart i k oi ok (sub _ _ hi) (sub _ _ hk)⟩
theorem memT_ok {P : Program} {gl : Gv} {ts : List Tab} {ks : List MK} (hw1 : (gl.wv 1000).1 = .i64) (hg : ∀ t ∈ ts, gl.g t.g = true) (hk : ∀ k ∈ ks, MemCall P ts k ∧ k.fine = true ∧ k.nx ≤ k.n') : TOK P gl (memT ts ks) := by
  refine ⟨fun {f args nx h v n' h'} e => ?_, fun {f args args' nx h v n' h' F w0 w m} e R G ha hf => ?_⟩
  · obtain ⟨k, h1, rfl, rfl, rfl, h4, h5, rfl, rfl, rfl⟩ := memT_inv e
    exact (hk k h1).2.2
  · obtain ⟨k, h1, rfl, rfl, rfl, h4, h5, rfl, rfl, rfl⟩ := memT_inv e
    obtain ⟨hC, hfine, hle⟩ := hk k h1
    have hsub : ∀ i o, (rowsT (hTab ts) k.hin).get i = some o → h.get i = some o := by
      intro i o ho
      rcases get_rowsT ho with ⟨r, q1, rfl, rfl⟩ | ⟨_, q2⟩
      · exact allAt_ok h4 r q1
      · obtain ⟨t, p1, rfl, rfl⟩ := get_hTab q2
        exact tabsAt_ok h5 t p1
    have hmix := R.mix hsub (takenOf k.hin)
    have hin : Rel (toldT F m h.get (takenOf k.hin)) w m (rowsT (hTab ts) k.hin) w := by
      refine hmix.sub fun i o ho => ?_
      rw [get_mixT]
      split
      · exact ho
      · rename_i hi
        unfold frz
        rw [Tr.get_mapT, ho, Option.map_some]
        have : o.own = false := by
          rcases get_rowsT ho with ⟨r, q1, rfl, rfl⟩ | ⟨_, q2⟩
          · cases hown : r.own with
            | true => exact absurd (takenOf_mem q1 hown) hi
            | false => exact hown
          · obtain ⟨t, p1, rfl, rfl⟩ := get_hTab q2
            rfl
        obtain ⟨cs, el, ow, es⟩ := o
        simp only at this
        subst this
        rfl
    refine Calls.mono (hC hin (fun g hgg => ?_) (by rw [G.2]; exact hw1) ha hf) ?_
    · obtain ⟨t, q1, q2⟩ := List.any_eq_true.1 hgg
      rw [← Nat.eq_of_beq_eq_true q2]
      exact G.1 t.g (hg t q1)
    · rintro x w' ⟨m', v', rfl, x1, d1, r1, R1⟩
      refine ⟨m', v', rfl, x1, d1, r1, ?_⟩
      refine RelF.sub (R.unmix x1 hf R1) fun i o ho => ?_
      unfold heapT
      rcases get_rowsT ho with ⟨r, q1, rfl, rfl⟩ | ⟨q1, q2⟩
      · have hf1 := List.all_eq_true.1 hfine r q1
        simp only [Bool.and_eq_true, Bool.or_eq_true, decide_eq_true_eq, List.contains_iff_mem] at hf1
        have ho2 : (rowsT .leaf k.hout).get r.b = some r.obj := (rowsT_same q1).trans ho
        have hob : r.obj.own = true := hf1.1
        by_cases hT : r.b ∈ takenOf k.hin
        · rw [if_pos hT, ho2]
          unfold ownO
          simp only
          rw [if_pos hob]
        · rw [if_neg hT]
          unfold addN
          rw [if_pos (hf1.2.resolve_left hT), ho2]
          simp only
          rw [if_pos hob]
      · obtain ⟨q3, q4⟩ := get_dropT q2
        rw [if_neg q3]
        unfold addN
        split
        · split
          · rename_i o2 ho2
            rcases get_rowsT ho2 with ⟨r, p1, rfl, rfl⟩ | ⟨_, p2⟩
            · exact absurd rfl (q1 r p1)
            · cases p2
          · exact q4
        · exact q4
end
end Go.Proofs.YtcccapeaeehjiaaGreatDoor.AM
