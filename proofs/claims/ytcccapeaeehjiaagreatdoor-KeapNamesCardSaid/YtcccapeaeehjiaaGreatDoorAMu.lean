/- Operations made ready once: what they say, the machine says. -/
import Derived.Test.YtcccapeaeehjiaaGreatDoorAMt
import Derived.Laws.Strings
namespace Go.Proofs.YtcccapeaeehjiaaGreatDoor.AM
noncomputable section
open Go Go.RowKit
set_option linter.unusedVariables false
set_option linter.unusedSimpArgs false
inductive CO where
  | tmp (t : Nat) (p : List D4)
  | val (v : Option Value)
noncomputable def CO.of (gl : Gv) : Operand → CO
  | .tmp t => .tmp t (way t)
  | .const v => .val (if flatV v then some v else none)
  | .global g => .val (if gl.g g then some (.pointer (some ⟨g, 0, none⟩)) else none)
  | .func f => .val (some (.func (.func f) #[] #[]))
noncomputable def getO (fr : Nat → Option Value) (x : CO) : Option Value := CO.rec (motive := fun _ => Option Value) (fun t _ => fr t) (fun v => v) x
noncomputable def getW (fr : Tr Value) (x : CO) : Option Value := CO.rec (motive := fun _ => Option Value) (fun _ p => fr.getP p) (fun v => v) x
theorem getW_of (gl : Gv) (fr : Tr Value) (x : Operand) : getW fr (CO.of gl x) = aeval gl fr.get x := by cases x <;> rfl
theorem getO_of (gl : Gv) (fr : Nat → Option Value) (x : Operand) : getO fr (CO.of gl x) = aeval gl fr x := by cases x <;> rfl
inductive COp where
  | mv (x : CO)
  | pick (c a b : CO)
  | bin (op : BinOp) (x y : CO)
  | conv (k : IntKind) (x : CO)
  | faddr (off : Nat) (x : CO)
  | load1 (x : CO)
  | loadN (n : Nat) (x : CO)
  | nilc (x : CO)
  | extr (i : Nat) (x : CO)
  | lenC (x : CO)
  | lenS (x : CO)
  | call (f : CO) (args : List CO)
  | iaddr (size : Nat) (x i : CO)
  | idx (x i : CO)
  | store (n : Nat) (a x : CO)
  | fld1 (off : Nat) (x : CO)
  | fldN (off n : Nat) (x : CO)
  | box (t : Nat) (x : CO)
  | alloc (t : Nat) (z : Value)
  | notC (x : CO)
  | mm (mn : Bool) (x y : CO)
  | scut (x : CO) (lo hi : Option CO)
  | slc (sz : Nat) (x : CO) (lo hi : Option CO)
  | apnd (e es bytes : Nat) (x y : CO)
  | apndS (e bytes : Nat) (x y : CO)
  | other
def isStrT (P : Program) (t : Nat) : Bool := match P.underlying t with | some .string => true | _ => false
def isSlcT (P : Program) (t : Nat) : Bool := match P.underlying t with | some (.slice _) => true | _ => false
def fieldOf (P : Program) (s f : Nat) : Option (Nat × Nat × Bool) := match P.underlying s with
  | some (.struct fields) => match fields[f]? with
    | some fl => match tsize P fl.type with
      | some n => match tagg P fl.type with
        | some b => some (fl.offset, n, b)
        | none => none
      | none => none
    | none => none
  | _ => none
def elemSize (P : Program) (t : Nat) : Option Nat := match P.underlying t with
  | some (.slice e) => tsize P e
  | _ => none
def elemOf (P : Program) (t : Nat) : Option (Nat × Nat × Nat) := match P.underlying t with
  | some (.slice e) => match P.info? e with
    | some i => match i.zero with
      | some z => if z.cells.size = i.size ∧ 0 < i.size ∧ i.size ≤ 1000000 then some (e, i.size, i.bytes) else none
      | none => none
    | none => none
  | _ => none
noncomputable def comp (P : Program) (gl : Gv) (o : Oper) : COp := match o.op with
  | .move x => .mv (CO.of gl x)
  | .assign x => .mv (CO.of gl x)
  | .pick c a b => .pick (CO.of gl c) (CO.of gl a) (CO.of gl b)
  | .binOp op _ x y _ => .bin op (CO.of gl x) (CO.of gl y)
  | .convert s d x => match P.underlying s, P.underlying d with
    | some _, some (.int k) => .conv k (CO.of gl x)
    | _, _ => .other
  | .fieldAddr s x f => match fieldOf P s f with
    | some (off, n + 1, _) => .faddr off (CO.of gl x)
    | _ => .other
  | .field s x f => match fieldOf P s f with
    | some (off, n + 1, true) => .fldN off (n + 1) (CO.of gl x)
    | some (off, _, false) => .fld1 off (CO.of gl x)
    | _ => .other
  | .load t a => match tagg P t with
    | some true => match tsize P t with
      | some n => .loadN n (CO.of gl a)
      | none => .other
    | some false => .load1 (CO.of gl a)
    | none => .other
  | .store t a x => match tsize P t with
    | some n => .store n (CO.of gl a) (CO.of gl x)
    | none => .other
  | .nilCheck x => .nilc (CO.of gl x)
  | .extract x i => .extr i (CO.of gl x)
  | .indexAddr t x i => match elemSize P t with
    | some n => .iaddr n (CO.of gl x) (CO.of gl i)
    | none => .other
  | .index t x i => if isStrT P t then .idx (CO.of gl x) (CO.of gl i) else .other
  | .box t x => .box t (CO.of gl x)
  | .unOp .not _ x => .notC (CO.of gl x)
  | .slice t x lo hi none => if isStrT P t then .scut (CO.of gl x) (lo.map (CO.of gl)) (hi.map (CO.of gl)) else match elemSize P t with
    | some n => .slc n (CO.of gl x) (lo.map (CO.of gl)) (hi.map (CO.of gl))
    | none => .other
  | .alloc t => match zeroOf P t with
    | some z => .alloc t z
    | none => .other
  | .call c => match c.callee with
    | .value f => .call (CO.of gl f) (c.args.toList.map (CO.of gl))
    | .builtin .len => match c.args.toList, c.argTypes.toList with
      | [x], [t] => if isStrT P t then .lenS (CO.of gl x) else if isSlcT P t then .lenC (CO.of gl x) else .other
      | _, _ => .other
    | .builtin .min => match c.args.toList with
      | [x, y] => .mm true (CO.of gl x) (CO.of gl y)
      | _ => .other
    | .builtin .max => match c.args.toList with
      | [x, y] => .mm false (CO.of gl x) (CO.of gl y)
      | _ => .other
    | .builtin .append => match c.args.toList, c.argTypes.toList with
      | [x, y], [t, u] => match elemOf P t with
        | some (e, es, bytes) => if isStrT P u then (if es = 1 then .apndS e bytes (CO.of gl x) (CO.of gl y) else .other) else if isSlcT P u then .apnd e es bytes (CO.of gl x) (CO.of gl y) else .other
        | none => .other
      | _, _ => .other
    | _ => .other
  | _ => .other
noncomputable def keep (nx : Nat) (h : Tr AObj) (v : Option Value) : Res := ob v fun v => some (v, nx, h)
theorem keep_eq (nx : Nat) (h : Tr AObj) (v : Option Value) : keep nx h v = keepR nx h v := ob_eq _ _
section
variable (P : Program) (call : CallF) (g : CO → Option Value) (nx : Nat) (h : Tr AObj)
noncomputable def strI (op : BinOp) : ByteArray → ByteArray → Option Value := BinOp.casesOn (motive := fun _ => ByteArray → ByteArray → Option Value) op
  (fun a b => gd (Nat.ble (Nat.add (llen a.data.toList) (llen b.data.toList)) 1000000000) (some (.string ⟨⟨app a.data.toList b.data.toList⟩⟩))) (fun _ _ => none) (fun _ _ => none) (fun _ _ => none) (fun _ _ => none) (fun _ _ => none) (fun _ _ => none) (fun _ _ => none) (fun _ _ => none) (fun _ _ => none) (fun _ _ => none)
  (fun a b => some (.bool (eqB a.data.toList b.data.toList))) (fun a b => some (.bool (sel (eqB a.data.toList b.data.toList) false true))) (fun _ _ => none) (fun _ _ => none) (fun _ _ => none) (fun _ _ => none)
noncomputable def binV (op : BinOp) (u v : Value) : Option Value := orE (onInt u fun k a => onInt v fun k' b => intI op k a k' b) (onStr u fun a => onStr v fun b => strI op a b)
noncomputable def xmv (x : CO) : Res := keep nx h (g x)
noncomputable def xpick (c a b : CO) : Res := ob (g c) fun c => onBool c fun c => keep nx h (sel c (g a) (g b))
noncomputable def xbin (op : BinOp) (x y : CO) : Res := ob (g x) fun u => ob (g y) fun v => keep nx h (binV op u v)
noncomputable def xconv (k : IntKind) (x : CO) : Res := ob (g x) fun u => onInt u fun _ n => some (.int k (wrapF k n), nx, h)
noncomputable def xfaddr (off : Nat) (x : CO) : Res := ob (g x) fun u => onPtr u fun a => some (.pointer (some ⟨a.block, Nat.add a.off off, none⟩), nx, h)
noncomputable def xload1 (x : CO) : Res := ob (g x) fun u => onPtr u fun a => ob (h.get a.block) fun o => keep nx h (lhead (ldrop a.off o.cells))
noncomputable def xloadN (n : Nat) (x : CO) : Res := ob (g x) fun u => onPtr u fun a => ob (h.get a.block) fun o => ob (ltakeE n (ldrop a.off o.cells)) fun vs => some (.agg ⟨vs⟩, nx, h)
noncomputable def xnilc (x : CO) : Res := ob (g x) fun u => onPtr u fun a => some (.pointer (some a), nx, h)
noncomputable def xextr (i : Nat) (x : CO) : Res := ob (g x) fun u => onTup u fun vs => keep nx h (lhead (ldrop i vs.toList))
noncomputable def xlenC (x : CO) : Res := ob (g x) fun u => onSlc u fun _ n _ => some (.int .i64 (Int.ofNat n), nx, h)
noncomputable def xlenS (x : CO) : Res := ob (g x) fun u => onStr u fun s => some (.int .i64 (Int.ofNat (llen s.data.toList)), nx, h)
noncomputable def nilL {α : Type} (l : List α) : Bool := List.casesOn (motive := fun _ => Bool) l true (fun _ _ => false)
noncomputable def xvals (l : List CO) : Option (List Value) := List.rec (motive := fun _ => Option (List Value)) (some []) (fun x _ r => ob (g x) fun v => ob r fun r => some (v :: r)) l
def hasBody (P : Program) (f : FuncId) : Bool := ((P.funcs[f]?).bind (·.body)).isSome
noncomputable def xcall (f : CO) (args : List CO) : Res := ob (g f) fun u => onFn u fun q fs cs => gd (nilL fs.toList) (gd (hasBody P q) (ob (xvals g args) fun vs => call q (app vs cs.toList) nx h))
noncomputable def nonneg (i : Int) : Bool := Int.casesOn (motive := fun _ => Bool) i (fun _ => true) (fun _ => false)
noncomputable def natOf (i : Int) : Nat := Int.casesOn (motive := fun _ => Nat) i (fun n => n) (fun _ => 0)
noncomputable def xiaddr (size : Nat) (x i : CO) : Res := ob (g x) fun u => ob (g i) fun j => onSlc u fun a n _ => ob a fun a => onInt j fun _ i => gd (nonneg i) (gd (Nat.ble (Nat.succ (natOf i)) n) (some (.pointer (some ⟨a.block, Nat.add a.off (Nat.mul (natOf i) size), none⟩), nx, h)))
noncomputable def xidx (x i : CO) : Res := ob (g x) fun u => ob (g i) fun j => onStr u fun s => onInt j fun _ i => gd (nonneg i) (ob (lhead (ldrop (natOf i) s.data.toList)) fun b => some (.int .u8 (Int.ofNat b.toNat), nx, h))
noncomputable def cellsL (v : Value) : Option (List Value) :=
  Value.casesOn (motive_1 := fun _ => Option (List Value)) v (fun b => some [.bool b]) (fun k n => some [.int k n]) (fun _ _ => none) (fun _ _ _ => none) (fun s => some [.string s]) (fun a => some [.pointer a]) (fun a n c => some [.slice a n c]) (fun a => some [.map a]) (fun a => some [.chan a]) (fun a b c => some [.func a b c]) (some [.nilFunc]) (fun t v => some [.iface t v]) (some [.nilIface]) (fun cs => some cs.toList) (fun _ => none)
noncomputable def lputF (vs : List Value) : Nat → List Value → Option (List Value) := fun off l => Nat.rec (motive := fun _ => List Value → Option (List Value))
  (List.rec (motive := fun _ => List Value → Option (List Value)) (fun l => some l) (fun v _ f l => List.casesOn (motive := fun _ => Option (List Value)) l none (fun _ r => ob (f r) fun r => some (v :: r))) vs)
  (fun _ f l => List.casesOn (motive := fun _ => Option (List Value)) l none (fun a r => ob (f r) fun r => some (a :: r))) off l
noncomputable def xstore (n : Nat) (p x : CO) : Res := ob (g p) fun u => onPtr u fun a => ob (g x) fun v => ob (cellsL v) fun vs => gd (Nat.beq n (llen vs)) (ob (h.get a.block) fun o => gd o.own (ob (lputF vs a.off o.cells) fun cs => some (undef, nx, h.set a.block (some ⟨cs, o.elem, true, o.es⟩))))
noncomputable def onAgg {β : Type} (v : Value) (k : List Value → Option β) : Option β :=
  Value.casesOn (motive_1 := fun _ => Option β) v (fun _ => none) (fun _ _ => none) (fun _ _ => none) (fun _ _ _ => none) (fun _ => none) (fun _ => none) (fun _ _ _ => none) (fun _ => none) (fun _ => none) (fun _ _ _ => none) none (fun _ _ => none) none (fun cs => k cs.toList) (fun _ => none)
noncomputable def xfld1 (off : Nat) (x : CO) : Res := ob (g x) fun u => onAgg u fun l => keep nx h (lhead (ldrop off l))
noncomputable def xfldN (off n : Nat) (x : CO) : Res := ob (g x) fun u => onAgg u fun l => ob (ltakeE n (ldrop off l)) fun vs => some (.agg ⟨vs⟩, nx, h)
noncomputable def xbox (t : Nat) (x : CO) : Res := ob (g x) fun u => ob (cellsL u) fun vs => some (.pointer (some ⟨nx, 0, none⟩), Nat.succ nx, h.set nx (some ⟨vs, t, true, 0⟩))
noncomputable def xalloc (t : Nat) (z : Value) : Res := ob (cellsL z) fun vs => some (.pointer (some ⟨nx, 0, none⟩), Nat.succ nx, h.set nx (some ⟨vs, t, true, 0⟩))
noncomputable def xnot (x : CO) : Res := ob (g x) fun u => onBool u fun b => some (.bool (sel b false true), nx, h)
noncomputable def xmm (mn : Bool) (x y : CO) : Res := ob (g x) fun u => ob (g y) fun v => onInt u fun k a => onInt v fun _ b => some (.int k (sel mn (sel (iLt b a) b a) (sel (iLt a b) b a)), nx, h)
/-- a bound that is given, or d; how many -/
noncomputable def bndO (x : Option CO) (d : Nat) : Option Nat := Option.rec (motive := fun _ => Option Nat) (some d) (fun x => ob (g x) fun v => onInt v fun _ i => gd (nonneg i) (some (natOf i))) x
noncomputable def xscut (x : CO) (lo hi : Option CO) : Res := ob (g x) fun u => onStr u fun s => ob (bndO g lo 0) fun l => ob (bndO g hi (llen s.data.toList)) fun q => gd (Nat.ble l q) (gd (Nat.ble q (llen s.data.toList)) (some (.string ⟨⟨ltake (Nat.sub q l) (ldrop l s.data.toList)⟩⟩, nx, h)))
noncomputable def slcR (a : Addr) (n sz l q : Nat) (x : Value) : Value := sel (sel (Nat.beq l 0) (Nat.beq q n) false) x (sel (Nat.beq l q) (.slice (some a) 0 0) (.slice (some ⟨a.block, Nat.add a.off (Nat.mul l sz), none⟩) (Nat.sub q l) 1))
noncomputable def xslc (sz : Nat) (x : CO) (lo hi : Option CO) : Res := ob (g x) fun u => onSlc u fun a n c => ob a fun a => ob (bndO g lo 0) fun l => ob (bndO g hi n) fun q => gd (Nat.ble l q) (gd (Nat.ble q n) (ob (h.get a.block) fun o => gd (Nat.beq o.es sz) (some (slcR a n sz l q u, nx, h))))
noncomputable def app0 (e es bytes : Nat) (k : Nat) (vs : List Value) : Res := gd (Nat.ble (Nat.mul k bytes) 140737488355328) (gd (Nat.ble k 140737488355328) (some (.slice (some ⟨nx, 0, none⟩) k 1, Nat.succ nx, h.set nx (some ⟨vs, e, true, es⟩))))
noncomputable def app1 (e es bytes : Nat) (k : Nat) (vs : List Value) (a : Addr) (len : Nat) : Res := ob (h.get a.block) fun o => gd (Nat.beq a.off 0) (gd o.own (gd (Nat.beq o.elem e) (gd (Nat.beq o.es es) (gd (Nat.beq (llen o.cells) (Nat.mul len es)) (gd (Nat.ble (Nat.mul (Nat.add len k) bytes) 140737488355328) (gd (Nat.ble (Nat.add len k) 140737488355328)
  (some (.slice (some ⟨nx, 0, none⟩) (Nat.add len k) 1, Nat.succ nx, (h.set a.block none).set nx (some ⟨app o.cells vs, e, true, es⟩)))))))))
noncomputable def appTo (e es bytes : Nat) (x : CO) (k : Nat) (vs : List Value) : Res := gd (Nat.ble 1 k) (ob (g x) fun u => onSlc u fun a n c => Option.rec (motive := fun _ => Res) (gd (Nat.beq n 0) (gd (Nat.beq c 0) (app0 nx h e es bytes k vs))) (fun a => gd (Nat.beq c 1) (app1 nx h e es bytes k vs a n)) a)
noncomputable def xapnd (e es bytes : Nat) (x y : CO) : Res := ob (g y) fun v => onSlc v fun b k c => ob b fun b => gd (Nat.beq c 1) (ob (h.get b.block) fun o => ob (ltakeE (Nat.mul k es) (ldrop b.off o.cells)) fun vs => appTo g nx h e es bytes x k vs)
noncomputable def bcells (l : List UInt8) : List Value := List.rec (motive := fun _ => List Value) [] (fun b _ r => .int .u8 (Int.ofNat b.toNat) :: r) l
noncomputable def xapndS (e bytes : Nat) (x y : CO) : Res := ob (g y) fun v => onStr v fun s => appTo g nx h e 1 bytes x (llen s.data.toList) (bcells s.data.toList)
noncomputable def xop (c : COp) : Res := COp.rec (motive := fun _ => Res) (xmv g nx h) (xpick g nx h) (xbin g nx h) (xconv g nx h) (xfaddr g nx h) (xload1 g nx h) (xloadN g nx h) (xnilc g nx h) (xextr g nx h) (xlenC g nx h) (xlenS g nx h) (xcall P call g nx h) (xiaddr g nx h) (xidx g nx h) (xstore g nx h) (xfld1 g nx h) (xfldN g nx h) (xbox g nx h) (xalloc nx h) (xnot g nx h) (xmm g nx h) (xscut g nx h) (xslc g nx h) (xapnd g nx h) (xapndS g nx h) none c
end
theorem onAgg_some {β : Type} {v : Value} {k : List Value → Option β} {r : β} (h : onAgg v k = some r) : ∃ a, v = .agg a ∧ k a.toList = some r := by
  cases v <;> first | exact ⟨_, rfl, h⟩ | cases h
/-! ### what they say is so -/
section
variable {P : Program} {call : CallF} {g : CO → Option Value} {nx : Nat} {h : Tr AObj}
theorem nilL_eq {α : Type} {l : Array α} (e : nilL l.toList = true) : l.isEmpty = true := by
  obtain ⟨l⟩ := l
  cases l with
  | nil => rfl
  | cons => cases e
theorem strI_ok {op : BinOp} {a b : ByteArray} {r : Value} (e : strI op a b = some r) : (pureRun P (Op.stringOp op a b)).bind (fun r => if flatV r then some r else none) = some r := by
  cases op <;> first | (cases e; done) | skip
  · replace e := gd_some e
    obtain ⟨h1, h2⟩ := e
    injection h2 with h2
    subst h2
    rw [nble, decide_eq_true_eq, llen_eq, llen_eq] at h1
    have h3 : a.size + b.size ≤ 1000000000 := h1
    have h4 : ¬ ((a.size + b.size : Nat) : Int) > IntKind.i64.max := by
      have : IntKind.i64.max = 9223372036854775807 := by decide
      omega
    simp only [Op.stringOp, if_neg h4, pureRun, Pure.pure, Sem.pure, Option.bind_some, flatV, flat1, flatC, if_true, app_eq]
    rfl
  · injection e with e
    subst e
    simp only [Op.stringOp, pureRun, Pure.pure, Sem.pure, Option.bind_some, flatV, flat1, flatC, if_true, eqB_eq, ByteArray.toList_eq]
  · injection e with e
    subst e
    simp only [Op.stringOp, pureRun, Pure.pure, Sem.pure, Option.bind_some, flatV, flat1, flatC, if_true, eqB_eq, ByteArray.toList_eq, sel_eq, Option.some.injEq, Value.bool.injEq]
    cases (a.data.toList == b.data.toList) <;> rfl
theorem binV_ok {op : BinOp} {u v r : Value} (e : binV op u v = some r) : abin P op u v = some r := by
  replace e := orE_some e
  rcases e with e | e
  · replace e := onInt_some e
    obtain ⟨k, a, rfl, e⟩ := e
    obtain ⟨k', b, rfl, e⟩ := onInt_some e
    exact intI_ok e
  · replace e := onStr_some e
    obtain ⟨a, rfl, e⟩ := e
    obtain ⟨b, rfl, e⟩ := onStr_some e
    exact strI_ok e
theorem cellsL_ok {v : Value} {vs : List Value} (e : cellsL v = some vs) : v.cells.toList = vs ∧ notTup v = true := by
  cases v <;> first | (cases e; done) | (injection e with e; exact ⟨e, rfl⟩)
theorem lputF_ok : ∀ (off : Nat) (vs l cs : List Value), lputF vs off l = some cs → off + vs.length ≤ l.length ∧ cs = lput l off vs
  | 0, [], l, cs, e => by
    injection e with e
    subst e
    exact ⟨by simp, by unfold lput; rfl⟩
  | 0, v :: vs, [], cs, e => by cases e
  | 0, v :: vs, a :: r, cs, e => by
    obtain ⟨q, h1, h2⟩ := ob_some (show ob (lputF vs 0 r) (fun r => some (v :: r)) = some cs from e)
    injection h2 with h2
    subst h2
    obtain ⟨k1, k2⟩ := lputF_ok 0 vs r q h1
    refine ⟨by simp only [List.length_cons] at k1 ⊢; omega, ?_⟩
    subst k2
    have sh : ∀ (vs : List Value) (o : Nat) (l : List Value), lput (v :: l) (o + 1) vs = v :: lput l o vs := by
      intro vs
      induction vs with
      | nil => intro o l; rfl
      | cons x vs ih => intro o l; unfold lput; rw [← ih]; rfl
    unfold lput
    rw [List.set_cons_zero, sh]
    cases vs <;> rfl
  | off + 1, vs, [], cs, e => by cases e
  | off + 1, vs, a :: r, cs, e => by
    obtain ⟨q, h1, h2⟩ := ob_some (show ob (lputF vs off r) (fun r => some (a :: r)) = some cs from e)
    injection h2 with h2
    subst h2
    obtain ⟨k1, k2⟩ := lputF_ok off vs r q h1
    refine ⟨by simp only [List.length_cons] at k1 ⊢; omega, ?_⟩
    subst k2
    have sh : ∀ (vs : List Value) (o : Nat) (l : List Value), lput (a :: l) (o + 1) vs = a :: lput l o vs := by
      intro vs
      induction vs with
      | nil => intro o l; rfl
      | cons x vs ih => intro o l; unfold lput; rw [← ih]; rfl
    rw [sh]
theorem fieldOf_ok {s f off n : Nat} {b : Bool} (e : fieldOf P s f = some (off, n, b)) : ∃ fields fl, P.underlying s = some (.struct fields) ∧ fields[f]? = some fl ∧ fl.offset = off ∧ tsize P fl.type = some n ∧ tagg P fl.type = some b := by
  unfold fieldOf at e
  split at e
  · rename_i fields hu
    split at e
    · rename_i fl hf
      split at e
      · rename_i k hk
        split at e
        · rename_i c hc
          simp only [Option.some.injEq, Prod.mk.injEq] at e
          obtain ⟨rfl, rfl, rfl⟩ := e
          exact ⟨fields, fl, hu, hf, rfl, hk, hc⟩
        · cases e
      · cases e
    · cases e
  · cases e
theorem nonneg_ok {i : Int} (e : nonneg i = true) : i = (natOf i : Nat) := by
  cases i with
  | ofNat n => rfl
  | negSucc n => cases e
theorem ltakeE_ok {α : Type} : ∀ (n : Nat) (l r : List α), ltakeE n l = some r → r = l.take n ∧ n ≤ l.length
  | 0, l, r, e => by injection e with e; subst e; simp
  | n + 1, [], r, e => by cases e
  | n + 1, a :: l, r, e => by
    obtain ⟨q, h1, h2⟩ := ob_some (show ob (ltakeE n l) (fun r => some (a :: r)) = some r from e)
    injection h2 with h2
    subst h2
    obtain ⟨k1, k2⟩ := ltakeE_ok n l q h1
    subst k1
    exact ⟨by simp, by simpa using k2⟩
end
end
end Go.Proofs.YtcccapeaeehjiaaGreatDoor.AM
