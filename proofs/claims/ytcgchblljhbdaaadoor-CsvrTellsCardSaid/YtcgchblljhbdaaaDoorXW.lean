/- Small laws beside the print's words: '[]byte(s)' of a string as a row that is only read; bytes that are read, as the library's entries want them. -/
import Derived.Test.YtcgchblljhbdaaaDoorWWords
import Derived.Test.YtcgchblljhbdaaaDoorWMore
import Derived.Test.YtcgchblljhbdaaaDoorWNEv
import Derived.Lib.ConvBytes
import Derived.Lib.Bytealg
import Derived.Lib.SlBytesConst
import Derived.Shelf.Bytes.SlIndexAt
import Derived.Shelf.Bytes.SlCountOne
namespace Go.Proofs.YtcgchblljhbdaaaDoor.XW
open Go.RowKit Go.Proofs.YtcgchblljhbdaaaDoorW.PrintWords Go.Proofs.YtcgchblljhbdaaaDoorW.PrintMore
theorem bytesWorld_grown (W : World) (e : TypeId) (s : ByteArray) : W.grownBy (Lib.bytesWorld W e s) none :=
  ⟨rfl, rfl, rfl, by rw [Lib.bytesWorld_size]; exact Nat.le_succ _, fun k hk _ => Lib.bytesWorld_at_old W e s k hk⟩
theorem bytesWorld_below {w0 W : World} {base : Nat} (e : TypeId) (s : ByteArray) (HB : Below base w0 W) (hbase : base ≤ W.heap.size) : Below base w0 (Lib.bytesWorld W e s) :=
  Below.grown HB (bytesWorld_grown W e s) hbase (fun k hk => by cases hk)
theorem len_bytesOf (s : ByteArray) : (bytesOf s).length = s.size := by
  simp [bytesOf]
theorem V_bytesWorld (W : World) (e base : Nat) (s : ByteArray) (hs : s.size ≤ 9223372036854775807) :
    Kd.V (Kd.int .u8) e (Lib.bytesWorld W e s) base (fun k_ => W.heap.size ≤ k_) (.slice (some ⟨W.heap.size, 0, none⟩) s.size (grownCap W s.size 0 e)) (bytesOf s) := by
  refine ⟨some ⟨W.heap.size, 0, none⟩, grownCap W s.size 0 e, by rw [len_bytesOf], by rw [len_bytesOf]; exact grownCap_ge W s.size 0 e, ?_⟩
  intro W' hW
  have hb : W'.heap[W.heap.size]? = (Lib.bytesWorld W e s).heap[W.heap.size]? := hW _ (Nat.le_refl _) (by rw [Lib.bytesWorld_size]; exact Nat.lt_succ_self _)
  refine ⟨rfl, by rw [len_bytesOf]; exact hs, fun hn => ⟨_, rfl, fun j p hj => ⟨[.int .u8 p], rfl, rfl, fun i u hu => ?_⟩⟩⟩
  obtain ⟨hl, hp⟩ := List.getElem?_eq_some_iff.1 hj
  have hjs : j < s.size := by rw [← len_bytesOf]; exact hl
  have hi : i = 0 := by
    cases i with
    | zero => rfl
    | succ i => simp at hu
  subst hi
  have hu' : Value.int .u8 p = u := by simpa using hu
  subst hu'
  have ha : Addr.add (⟨W.heap.size, 0, none⟩ : Addr) (j * (Kd.int .u8).sz + 0) = ⟨W.heap.size, j, none⟩ := by
    have h1 : (Kd.int .u8).sz = 1 := rfl
    rw [h1]
    cases j with
    | zero => rfl
    | succ j => simp [Addr.add]
  rw [ha]
  have hc := Lib.bytesWorld_cell W e s j hjs
  have h2 : W'.cell? ⟨W.heap.size, j, none⟩ = (Lib.bytesWorld W e s).cell? ⟨W.heap.size, j, none⟩ := World.cell?_of_block (a := ⟨W.heap.size, j, none⟩) hb
  rw [h2, hc]
  have h3 : (bytesOf s)[j] = p := hp
  have hjl : j < s.data.toList.length := by simpa using hjs
  have h4 : p = ((s.data.toList.getD j 0).toNat : Int) := by
    rw [← h3]
    simp [bytesOf, List.getD, hjs]
  rw [h4]
section
variable {P : Program} {ops : Array Oper} {rest : List Oper} {o : Oper} {a : Act} {Q : Exit → Act → World → Prop} {Kc : Act → World → Prop} {W : World}
theorem run_bytes (src dst e : TypeId) (s : ByteArray) {x : Operand} (ho : o.op = .convert src dst x) (hx : a.eval x = .string s) {u : TypeDesc} (hs : P.underlying src = some u) (hd : P.underlying dst = some (.slice e)) (he : P.underlying e = some (.int .u8)) :
    (execOp a.eval o).run P W = .ok (.value (.slice (some ⟨W.heap.size, 0, none⟩) s.size (grownCap W s.size 0 e))) (Lib.bytesWorld W e s) := by
  have hr := Lib.run_convert_string_bytes (P := P) W src dst e s hs hd he
  simp [execOp, ho, hx, hr]
theorem V_bytes {w0 : World} (base e : Nat) (hgd : o.guard = none) {N : Tmp} (_hd : o.dst = some N) (src dst : TypeId) (x : Operand) (ho : o.op = .convert src dst x) (s : ByteArray) (hx : a.eval x = .string s)
    {u : TypeDesc} (hs : P.underlying src = some u) (ht : P.underlying dst = some (.slice e)) (he : P.underlying e = some (.int .u8)) (hm : s.size ≤ 9223372036854775807) {ok : Nat → Prop} (hok : ∀ k, W.heap.size ≤ k → ok k)
    (HB : Below base w0 W) (hbase : base ≤ W.heap.size)
    (h : ∀ v1 w1, Kd.V (Kd.int .u8) e w1 base ok v1 (bytesOf s) → Below base w0 w1 → W.grownBy w1 none → (∃ b, v1.ownBlock = some b ∧ W.heap.size ≤ b) → wpList P ops Q rest (a.put o.dst v1) w1) : wpList P ops Q (o :: rest) a W :=
  Kd.event_run hgd (run_bytes src dst e s ho hx hs ht he) (h _ _ (Kd.V_mono (V_bytesWorld W e base s hm) hok) (bytesWorld_below e s HB hbase) (bytesWorld_grown W e s) ⟨W.heap.size, by simp [Value.ownBlock], Nat.le_refl _⟩)
theorem V_bytes_step {w0 : World} (base e : Nat) (hw : Region.wanted o (yielded ops a.tmps) = true) {N : Tmp} (_hd : o.dst = some N) (src dst : TypeId) (x : Operand) (ho : o.op = .convert src dst x) (s : ByteArray) (hx : a.eval x = .string s)
    {u : TypeDesc} (hs : P.underlying src = some u) (ht : P.underlying dst = some (.slice e)) (he : P.underlying e = some (.int .u8)) (hm : s.size ≤ 9223372036854775807) {ok : Nat → Prop} (hok : ∀ k, W.heap.size ≤ k → ok k)
    (HB : Below base w0 W) (hbase : base ≤ W.heap.size)
    (h : ∀ v1 w1, Kd.V (Kd.int .u8) e w1 base ok v1 (bytesOf s) → Below base w0 w1 → W.grownBy w1 none → (∃ b, v1.ownBlock = some b ∧ W.heap.size ≤ b) → Kc (a.put o.dst v1) w1) : if Region.wanted o (yielded ops a.tmps) = true then Oper.wp P o a W Kc Q else Kc (a.put o.dst undef) W :=
  event_step hw (run_bytes src dst e s ho hx hs ht he) (h _ _ (Kd.V_mono (V_bytesWorld W e base s hm) hok) (bytesWorld_below e s HB hbase) (bytesWorld_grown W e s) ⟨W.heap.size, by simp [Value.ownBlock], Nat.le_refl _⟩)
end
/-- '[]byte("constant")': the row that a literal has just laid, marked. -/
theorem V_marked (W : World) (e base : Nat) (xs : List Int) (hs : xs.length ≤ 9223372036854775807) (fr : Nat × Nat) :
    Kd.V (Kd.int .u8) e (W.alloc (.cells (xs.map (Value.int .u8)).toArray e fr)) base (fun k_ => W.heap.size ≤ k_) (.slice (some ⟨W.heap.size, 0, none⟩) xs.length xs.length) xs := by
  refine ⟨some ⟨W.heap.size, 0, none⟩, xs.length, rfl, Nat.le_refl _, ?_⟩
  intro W' hW
  have hb : W'.heap[W.heap.size]? = some (.cells (xs.map (Value.int .u8)).toArray e fr) := (hW _ (Nat.le_refl _) (by simp)).trans (heap_alloc_new W _)
  refine ⟨rfl, hs, fun hn => ⟨_, rfl, fun j p hj => ⟨[.int .u8 p], rfl, rfl, fun i u hu => ?_⟩⟩⟩
  obtain ⟨hl, hp⟩ := List.getElem?_eq_some_iff.1 hj
  have hi : i = 0 := by
    cases i with
    | zero => rfl
    | succ i => simp at hu
  subst hi
  have hu' : Value.int .u8 p = u := by simpa using hu
  subst hu'
  have ha : Addr.add (⟨W.heap.size, 0, none⟩ : Addr) (j * (Kd.int .u8).sz + 0) = ⟨W.heap.size, j, none⟩ := by
    have h1 : (Kd.int .u8).sz = 1 := rfl
    rw [h1]
    cases j with
    | zero => rfl
    | succ j => simp [Addr.add]
  rw [ha]
  simp [World.cell?, hb, hj]
section
variable {P : Program} {ops : Array Oper} {rest : List Oper} {o : Oper} {a : Act} {Q : Exit → Act → World → Prop} {W : World}
theorem V_const {w0 : World} (base e : Nat) (hgd : o.guard = none) {N : Tmp} (_hd : o.dst = some N) (t : TypeId) (x : Operand) (ho : o.op = .convert t t x) {xs : List Int} {C : Array Value} (hC : C = (xs.map (Value.int .u8)).toArray)
    {g : Nat} (hx : a.eval x = .slice (some ⟨g, 0, none⟩) xs.length xs.length) (hg : g = W.heap.size) (hm : xs.length ≤ 9223372036854775807) (ht : P.underlying t = some (.slice e)) (he : P.underlying e = some (.int .u8)) {ok : Nat → Prop} (hok : ∀ k, W.heap.size ≤ k → ok k)
    (HB : Below base w0 W) (hbase : base ≤ W.heap.size)
    (h : ∀ v1 w1, Kd.V (Kd.int .u8) e w1 base ok v1 xs → Below base w0 w1 → W.grownBy w1 none → (∃ b, v1.ownBlock = some b ∧ W.heap.size ≤ b) → wpList P ops Q rest (a.put o.dst v1) w1) : wpList P ops Q (o :: rest) a (W.alloc (.cells C e)) := by
  subst hC
  subst hg
  refine Kd.event_run hgd (w1 := W.alloc (.cells (xs.map (Value.int .u8)).toArray e ((xs.map (Value.int .u8)).toArray.size, (xs.map (Value.int .u8)).toArray.size + 1))) (v := .slice (some ⟨W.heap.size, 0, none⟩) xs.length xs.length) ?_ ?_
  · have hr := Lib.run_convert_bytes_const (P := P) W t e (xs.map (Value.int .u8)).toArray xs.length xs.length ht he
    simp [execOp, ho, hx, hr]
  · exact h _ _ (Kd.V_mono (V_marked W e base xs hm _) hok) (HB.alloc hbase _) (World.grownBy_alloc W _ none) ⟨W.heap.size, by simp [Value.ownBlock], Nat.le_refl _⟩
end
/-- What came in and is read, as what may be shared. -/
theorem V_of_C {w : World} {k : IntKind} {A : Option Addr} {c e base : Nat} {l : List Int} (h : Kd.C (Kd.int k) w A l.length l) (hc : l.length ≤ c) : Kd.V (Kd.int k) e w base (fun _ => True) (.slice A l.length c) l := by
  refine ⟨A, c, rfl, hc, fun W' hW => ?_⟩
  refine ⟨h.1, h.2.1, fun hn => ?_⟩
  obtain ⟨ad, he, hcell⟩ := h.2.2 hn
  refine ⟨ad, he, fun j p hj => ?_⟩
  obtain ⟨cs, hl, hp, hu⟩ := hcell j p hj
  refine ⟨cs, hl, hp, fun i u hi => ?_⟩
  have h1 := hu i u hi
  have hlt := World.block_lt_of_cell? w _ h1
  exact (World.cell?_of_block (w := w) (w' := W') (hW _ trivial hlt)).trans h1
theorem cut_len {α : Type} {l : List α} {a b : Int} (h0 : 0 ≤ a) (h1 : a ≤ b) (hm : b ≤ (l.length : Int)) : ((l.take b.toNat).drop a.toNat).length = b.toNat - a.toNat := by
  rw [List.length_drop, List.length_take, Nat.min_eq_left (by omega)]
theorem take_len {α : Type} {l : List α} {b : Int} (hm : b ≤ (l.length : Int)) : (l.take b.toNat).length = b.toNat := by
  rw [List.length_take, Nat.min_eq_left (by omega)]
/-- Bytes that are read, as the library's entries want them. -/
theorem cells_of_C {w : World} {A : Option Addr} {l : List Int} (h : Kd.C (Kd.int .u8) w A l.length l) : (l = []) ∨ ∃ ad, A = some ad ∧ ∀ i, i < l.length → w.cell? (ad.add i) = some (.int .u8 (l.getD i 0)) := by
  have h2 := (Kd.reads_of_C h : ReadsOf (Value.int .u8) (0 : Int) w A l.length l)
  rcases Nat.eq_zero_or_pos l.length with h0 | h0
  · exact .inl (List.eq_nil_of_length_eq_zero h0)
  · obtain ⟨ad, e, hc⟩ := h2.2.2 h0
    exact .inr ⟨ad, e, hc⟩
theorem run_indexByteZ {P : Program} (w : World) (A : Option Addr) (c : Nat) (cv : Int) :
    (Extern.BytealgIndexByte.indexByte #[.slice A 0 c, .int .u8 cv]).run P w = .ok (.int .i64 (-1)) w := by
  cases A with
  | none => exact Lib.run_indexByteNil w 0 c cv
  | some ad => exact Lib.run_indexByteAt w ad 0 c [] rfl (fun i hi => by omega) cv
theorem run_indexByteC {P : Program} {w : World} {A : Option Addr} {l : List Int} (c : Nat) (h : Kd.C (Kd.int .u8) w A l.length l) (cv : Int) :
    (Extern.BytealgIndexByte.indexByte #[.slice A l.length c, .int .u8 cv]).run P w = .ok (.int .i64 (Lib.indexByte (Lib.bytesOf l) cv.toNat.toUInt8)) w := by
  rcases cells_of_C h with rfl | ⟨ad, rfl, hc⟩
  · exact run_indexByteZ w A c cv
  · exact Lib.run_indexByteAt w ad l.length c l rfl hc cv
theorem run_countZ {P : Program} (w : World) (A : Option Addr) (c : Nat) (cv : Int) :
    (Extern.BytealgCount.count #[.slice A 0 c, .int .u8 cv]).run P w = .ok (.int .i64 0) w := by
  cases A with
  | none => exact Lib.run_countNil w 0 c cv
  | some ad => exact Lib.run_countAt w ad 0 c [] rfl (fun i hi => by omega) cv
theorem run_countC {P : Program} {w : World} {A : Option Addr} {l : List Int} (c : Nat) (h : Kd.C (Kd.int .u8) w A l.length l) (cv : Int) :
    (Extern.BytealgCount.count #[.slice A l.length c, .int .u8 cv]).run P w = .ok (.int .i64 (Lib.countByte (Lib.bytesOf l) cv.toNat.toUInt8 : Nat)) w := by
  rcases cells_of_C h with rfl | ⟨ad, rfl, hc⟩
  · exact run_countZ w A c cv
  · exact Lib.run_countAt w ad l.length c l rfl hc cv
end Go.Proofs.YtcgchblljhbdaaaDoor.XW
