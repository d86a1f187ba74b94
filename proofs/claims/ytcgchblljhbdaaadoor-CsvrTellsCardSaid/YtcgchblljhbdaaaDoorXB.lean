/- A strings.Builder of the call's own as a row of bytes that the printed proofs hold ('Kd.B': as 'Kd.R' holds a slice), and what its methods turn. This session's own, over the kit's shelf (Derived.Shelf.Strings.BuilderK). -/
import Derived.Test.YtcgchblljhbdaaaDoorWMore
import Derived.Test.YtcgchblljhbdaaaDoorXW
import Derived.Lib.OthersKept
import Derived.Lib.FrozenHead
namespace Go.Proofs.YtcgchblljhbdaaaDoor
open Go Go.RowKit Go.Proofs.YtcgchblljhbdaaaDoorW.PrintWords Go.Proofs.YtcgchblljhbdaaaDoorW.PrintLast
abbrev u8T : Nat := 5
namespace Kd
/-- The builder at v (a block of the call's own, from base on) holds the bytes xs; its two blocks are ok. -/
def B (_d : Kd Int) (T : Nat) (w : World) (base : Nat) (ok : Nat → Prop) (v : Value) (xs : List Int) : Prop :=
  (∀ x ∈ xs, 0 ≤ x ∧ x < 256) ∧ ∃ b, v = .pointer (some ⟨b, 0, none⟩) ∧ Lib.IsBuilderF T u8T base b (xs.map (Value.int .u8)) w ∧ ok b ∧ ∀ p u k, w.heap[b]? = some (Obj.cells #[p, u] T (0, 0)) → u.ownBlock = some k → ok k
/-- What a builder's method leaves as it was. -/
def Wrote (T : Nat) (v : Value) (w w1 : World) : Prop := ∃ b, v = .pointer (some ⟨b, 0, none⟩) ∧ (∃ cs, w.heap[b]? = some (Obj.cells cs T (0, 0))) ∧ Lib.OthersKept u8T (some b) w w1
section
variable {d : Kd Int} {T : Nat} {w w1 : World} {base : Nat} {ok ok' : Nat → Prop} {v : Value} {xs : List Int}
theorem blocks_of {b : Nat} {bs : List Value} (h : Lib.IsBuilderF T u8T base b bs w) : ∃ p u, (p = .pointer none ∨ p = .pointer (some ⟨b, 0, none⟩)) ∧ Lib.BuilderAtF T u8T base b p bs w ∧ w.heap[b]? = some (Obj.cells #[p, u] T (0, 0)) ∧ base ≤ b ∧ ∀ k, u.ownBlock = some k → base ≤ k ∧ ∃ cs fr, w.heap[k]? = some (Obj.cells cs u8T fr) := by
  have key : ∀ p, Lib.BuilderAtF T u8T base b p bs w → ∃ u, w.heap[b]? = some (Obj.cells #[p, u] T (0, 0)) ∧ base ≤ b ∧ ∀ k, u.ownBlock = some k → base ≤ k ∧ ∃ cs fr, w.heap[k]? = some (Obj.cells cs u8T fr) := by
    rintro p ⟨hB, u, hb, ⟨hl, ho⟩, hne⟩
    refine ⟨u, hb, hB, fun k hk => ?_⟩
    rcases ho with ⟨rfl, _⟩ | ⟨g, cap, cur, fz, rfl, h2, h3, _⟩
    · simp [Value.ownBlock] at hk
    · simp only [Value.ownBlock, Option.some.injEq] at hk
      subst hk
      exact ⟨h2, cur, fz, h3⟩
  rcases h with h | h
  · obtain ⟨u, h2⟩ := key _ h
    exact ⟨_, u, .inl rfl, h, h2⟩
  · obtain ⟨u, h2⟩ := key _ h
    exact ⟨_, u, .inr rfl, h, h2⟩
theorem B_ok (h : B d T w base ok v xs) (hok : ∀ k cs t fr, base ≤ k → w.heap[k]? = some (Obj.cells cs t fr) → (t = T ∨ t = u8T) → ok k → ok' k) : B d T w base ok' v xs := by
  obtain ⟨h8, b, hv, hb, h1, h2⟩ := h
  obtain ⟨p, u, _, _, hc, hB, hu⟩ := blocks_of hb
  refine ⟨h8, b, hv, hb, hok b _ _ _ hB hc (.inl rfl) h1, fun p' u' k hp hk => ?_⟩
  rw [hc] at hp
  injection hp with hp
  injection hp with hp
  injection hp with hp
  injection hp with _ hp
  injection hp with hp
  subst hp
  obtain ⟨h3, cs, fr, h4⟩ := hu k hk
  exact hok k _ _ _ h3 h4 (.inr rfl) (h2 _ _ k hc hk)
theorem B_mono (h : B d T w base ok v xs) (hok : ∀ k, ok k → ok' k) : B d T w base ok' v xs := B_ok h (fun k _ _ _ _ _ _ hk => hok k hk)
theorem at_step {p : Value} {b : Nat} {bs : List Value} (h : Lib.BuilderAtF T u8T base b p bs w) (hm : ∀ (k : Nat) cs t fr, w.heap[k]? = some (Obj.cells cs t fr) → (k = b ∨ ∀ u, w.heap[b]? = some (Obj.cells #[p, u] T (0, 0)) → u.ownBlock = some k) → (t = T ∨ t = u8T) → w1.heap[k]? = w.heap[k]?) : Lib.BuilderAtF T u8T base b p bs w1 := by
  obtain ⟨hB, u, hb, ⟨hl, ho⟩, hne⟩ := h
  refine ⟨hB, u, (hm b _ _ _ hb (.inl rfl) (.inl rfl)).trans hb, ⟨hl, ?_⟩, hne⟩
  rcases ho with ho | ⟨g, cap, cur, fz, h1, h2, h3, h4⟩
  · exact .inl ho
  · refine .inr ⟨g, cap, cur, fz, h1, h2, (hm g _ _ _ h3 (.inr (fun u' hu' => ?_)) (.inr rfl)).trans h3, h4⟩
    rw [hb] at hu'
    injection hu' with hu'
    injection hu' with hu'
    injection hu' with hu'
    injection hu' with _ hu'
    injection hu' with hu'
    rw [← hu', h1]
    rfl
theorem B_step (h : B d T w base ok v xs) (hm : ∀ (k : Nat) cs t fr, w.heap[k]? = some (Obj.cells cs t fr) → (t = T ∨ t = u8T) → ok k → w1.heap[k]? = w.heap[k]?) : B d T w1 base ok v xs := by
  obtain ⟨h8, b, hv, hb, h1, h2⟩ := h
  have hb' := hb
  obtain ⟨p, u, hp, _, hc, hB, hu⟩ := blocks_of hb
  have hcb : w1.heap[b]? = w.heap[b]? := hm b _ _ _ hc (.inl rfl) h1
  refine ⟨h8, b, hv, hb'.imp (fun h => at_step h (fun k cs t fr hk hw ht => hm k cs t fr hk ht ?_)) (fun h => at_step h (fun k cs t fr hk hw ht => hm k cs t fr hk ht ?_)), h1, fun p' u' k hp' hk => h2 p' u' k (by rw [← hcb]; exact hp') hk⟩
  · rcases hw with rfl | hw
    · exact h1
    · obtain ⟨_, u2, hu2, _⟩ := h
      exact h2 _ u2 k hu2 (hw u2 hu2)
  · rcases hw with rfl | hw
    · exact h1
    · obtain ⟨_, u2, hu2, _⟩ := h
      exact h2 _ u2 k hu2 (hw u2 hu2)
theorem lt_of_some {o : Obj} {k : Nat} (h : w.heap[k]? = some o) : k < w.heap.size := by
  rcases Nat.lt_or_ge k w.heap.size with h' | h'
  · exact h'
  · simp [Array.getElem?_eq_none h'] at h
theorem B_below (h : B d T w base ok v xs) (hb : Below w.heap.size w w1) : B d T w1 base ok v xs := B_step h (fun k _ _ _ hk _ _ => hb.block k (lt_of_some hk))
theorem B_alloc (h : B d T w base ok v xs) (o : Obj) : B d T (w.alloc o) base ok v xs := B_step h (fun k _ _ _ hk _ _ => Lib.alloc_old w o k (lt_of_some hk))
theorem B_drew (h : B d T w base ok v xs) : B d T w.drew base ok v xs := B_step h (fun _ _ _ _ _ _ _ => rfl)
theorem B_drewN (h : B d T w base ok v xs) (m : Nat) : B d T (w.drewN m) base ok v xs := B_step h (fun _ _ _ _ _ _ _ => rfl)
theorem B_grown (h : B d T w base ok v xs) {row : Option Nat} (hg : w.grownBy w1 row) (hok : ∀ k, ok k → some k ≠ row) : B d T w1 base ok v xs := B_step h (fun k _ _ _ hk _ ho => hg.block k (lt_of_some hk) (hok k ho))
theorem B_far (h : B d T w base ok v xs) {p : Addr} (hok : ∀ k, ok k → k ≠ p.block) (u : Value) : B d T (w.setCell p u) base ok v xs := B_step h (fun k _ _ _ _ _ ho => Below.heap_setCell w p u k (hok k ho))
theorem B_types (h : B d T w base ok v xs) {g t : Nat} {cells : Array Value} (hb : w.heap[g]? = some (Obj.cells cells t (0, 0))) (ht : ∀ q, q ∈ [T, u8T] → q ≠ t) : B d T w base (fun k => ok k ∧ k ≠ g) v xs := by
  refine B_ok h (fun k cs t' fr _ hk ht' ho => ⟨ho, fun e => ?_⟩)
  subst e
  rw [hk] at hb
  injection hb with hb
  injection hb with _ hb _
  rcases ht' with rfl | rfl
  · exact ht _ (by simp) hb
  · exact ht _ (by simp) hb
theorem B_apart' {u : Value} {e' : Nat} (h : B d T w base ok v xs) (hty : ∀ k, u.ownBlock = some k → ∃ cells, w.heap[k]? = some (Obj.cells cells e' (0, 0))) (ht : ∀ q, q ∈ [T, u8T] → q ≠ e') : B d T w base (fun k => ok k ∧ some k ≠ u.ownBlock) v xs := by
  refine B_ok h (fun k cs t' fr _ hk ht' ho => ⟨ho, fun e => ?_⟩)
  obtain ⟨cells, hc⟩ := hty k e.symm
  rw [hk] at hc
  injection hc with hc
  injection hc with _ hc _
  rcases ht' with rfl | rfl
  · exact ht _ (by simp) hc
  · exact ht _ (by simp) hc
theorem B_over' {u : Value} {e' : Nat} (h : B d T w base ok v xs) (hty : ∀ k, u.ownBlock = some k → ∃ cells, w.heap[k]? = some (Obj.cells cells e' (0, 0))) (ht : ∀ q, q ∈ [T, u8T] → q ≠ e') (hg : w.grownBy w1 u.ownBlock) : B d T w1 base ok v xs :=
  B_mono (B_grown (B_apart' h hty ht) hg (fun _ hk => hk.2)) (fun _ hk => hk.1)
theorem B_new {gb : Nat} (ok : Nat → Prop) (hbox : w.heap[gb]? = some (Obj.cells #[.pointer none, .slice none 0 0] T (0, 0))) (hb : base ≤ gb) (hok : ∀ k, base ≤ k → ok k) : B d T w base ok (.pointer (some ⟨gb, 0, none⟩)) [] := by
  refine ⟨fun _ h => absurd h List.not_mem_nil, gb, rfl, .inl ⟨hb, _, hbox, ⟨rfl, .inl ⟨rfl, rfl⟩⟩, by simp [Value.ownBlock]⟩, hok gb hb, fun p u k hp hk => ?_⟩
  rw [hbox] at hp
  injection hp with hp
  injection hp with hp
  injection hp with hp
  injection hp with _ hp
  injection hp with hp
  subst hp
  simp [Value.ownBlock] at hk
theorem B_mk {b : Nat} (h8 : ∀ x ∈ xs, 0 ≤ x ∧ x < 256) (hb : Lib.IsBuilderF T u8T base b (xs.map (Value.int .u8)) w) (hok : ∀ k, base ≤ k → ok k) : B d T w base ok (.pointer (some ⟨b, 0, none⟩)) xs := by
  obtain ⟨p, u, _, _, hc, hB, hu⟩ := blocks_of hb
  refine ⟨h8, b, rfl, hb, hok b hB, fun p' u' k hp hk => ?_⟩
  rw [hc] at hp
  injection hp with hp
  injection hp with hp
  injection hp with hp
  injection hp with _ hp
  injection hp with hp
  subst hp
  exact hok k (hu k hk).1
theorem wrote_of (h : B d T w base ok v xs) {b : Nat} (hv : v = .pointer (some ⟨b, 0, none⟩)) (hk : Lib.OthersKept u8T (some b) w w1) : Wrote T v w w1 := by
  obtain ⟨_, b', hv', hb, _⟩ := h
  rw [hv] at hv'
  injection hv' with hv'
  injection hv' with hv'
  injection hv' with hv'
  subst hv'
  obtain ⟨p, u, _, _, hc, _⟩ := blocks_of hb
  exact ⟨b, hv, ⟨_, hc⟩, hk⟩
theorem B_open (h : B d T w base ok v xs) : ∃ b, v = .pointer (some ⟨b, 0, none⟩) ∧ Lib.IsBuilderF T u8T base b (xs.map (Value.int .u8)) w := by
  obtain ⟨_, b, hv, hb, _⟩ := h
  exact ⟨b, hv, hb⟩
theorem cells_bytes : ∀ (xs : List Int), (∀ x ∈ xs, 0 ≤ x ∧ x < 256) → Lib.byteCells (Lib.bytesOf xs) = xs.map (Value.int .u8)
  | [], _ => rfl
  | x :: xs, h => by
    have hx := h x List.mem_cons_self
    have e : ((UInt8.ofNat x.toNat).toNat : Int) = x := by
      have : x.toNat < 256 := by omega
      simp [UInt8.toNat_ofNat', Nat.mod_eq_of_lt this]
      omega
    have ih := cells_bytes xs (fun y hy => h y (List.mem_cons_of_mem _ hy))
    unfold Lib.byteCells Lib.bytesOf at *
    simp only [List.map_cons, ih, e]
theorem szL (l : List UInt8) : (⟨l.toArray⟩ : ByteArray).size = l.length := by simp [ByteArray.size]
theorem strCells_bytes (s : ByteArray) : Lib.strCells s = (bytesOf s).map (Value.int .u8) := by
  unfold Lib.strCells bytesOf
  simp
theorem bytes_range (s : ByteArray) : ∀ x ∈ bytesOf s, 0 ≤ x ∧ x < 256 := by
  intro x hx
  unfold bytesOf at hx
  simp only [List.mem_map] at hx
  obtain ⟨c, _, rfl⟩ := hx
  have := c.toNat_lt
  omega
theorem B_bytes {b : Nat} (h : B d T w base ok v xs) (hB : Lib.IsBuilderF T u8T base b (xs.map (Value.int .u8)) w) : Lib.IsBuilderF T u8T base b (Lib.byteCells (Lib.bytesOf xs)) w := by
  rw [cells_bytes xs h.1]
  exact hB
theorem B_closeWriteString {b : Nat} (h : B d T w base ok' (.pointer (some ⟨b, 0, none⟩)) xs) (hok : ∀ k, base ≤ k → ok k) (s : ByteArray) (h1 : Lib.BuilderAtF T u8T base b (.pointer (some ⟨b, 0, none⟩)) (xs.map (Value.int .u8) ++ Lib.strCells s) w1) : B d T w1 base ok (.pointer (some ⟨b, 0, none⟩)) (xs ++ bytesOf s) := by
  refine B_mk (fun x hx => ?_) (.inr ?_) hok
  · rcases List.mem_append.mp hx with hx | hx
    · exact h.1 x hx
    · exact bytes_range s x hx
  · rw [List.map_append, ← strCells_bytes]
    exact h1
theorem B_closeWriteByte {b : Nat} (h : B d T w base ok' (.pointer (some ⟨b, 0, none⟩)) xs) (hok : ∀ k, base ≤ k → ok k) {c : Int} (hc : 0 ≤ c ∧ c < 256) (h1 : Lib.BuilderAtF T u8T base b (.pointer (some ⟨b, 0, none⟩)) (xs.map (Value.int .u8) ++ [.int .u8 c]) w1) : B d T w1 base ok (.pointer (some ⟨b, 0, none⟩)) (xs ++ [c]) := by
  refine B_mk (fun x hx => ?_) (.inr ?_) hok
  · rcases List.mem_append.mp hx with hx | hx
    · exact h.1 x hx
    · rw [List.mem_singleton.mp hx]
      exact hc
  · rw [List.map_append]
    exact h1
theorem B_closeString {b : Nat} (h : B d T w base ok' (.pointer (some ⟨b, 0, none⟩)) xs) (hok : ∀ k, base ≤ k → ok k) (h1 : Lib.IsBuilderF T u8T base b (Lib.byteCells (Lib.bytesOf xs)) w1) : B d T w1 base ok (.pointer (some ⟨b, 0, none⟩)) xs := by
  rw [cells_bytes xs h.1] at h1
  exact B_mk h.1 h1 hok
/-! ### the others, behind a method of a builder -/
theorem wrote_blk {g t : Nat} {cs : Array Value} {fr : Nat × Nat} (h : w.heap[g]? = some (Obj.cells cs t fr)) (hw : Wrote T v w w1) (ht : t ≠ T ∧ t ≠ u8T) : w1.heap[g]? = some (Obj.cells cs t fr) := by
  obtain ⟨b, _, ⟨cb, hb⟩, hk⟩ := hw
  refine hk g _ h (fun e => ?_) (fun c fz e => ?_)
  · injection e with e
    subst e
    rw [hb] at h
    injection h with h
    injection h with _ h _
    exact ht.1 h.symm
  · injection e with _ e _
    exact ht.2 e
theorem R_wrote {α : Type} {d : Kd α} {e : Nat} {ok : Nat → Prop} {u : Value} {xs : List α} (h : d.R e w base ok u xs) (hw : Wrote T v w w1) (ht : ∀ q, q ∈ e :: d.E → q ≠ T ∧ q ≠ u8T) : d.R e w1 base ok u xs := by
  refine Kd.R_mono (Kd.R_move (Kd.R_bound h) (fun k hk => ?_)) (fun _ hk => hk.1)
  obtain ⟨_, _, _, q, hq, cells, hc⟩ := hk
  rw [hc]
  exact wrote_blk hc hw (ht q hq)
end
/-- Texts that are read, as the library's contracts want them. -/
theorem cells_of_strs {w : World} {A : Option Addr} {l : List ByteArray} (h : Kd.C Kd.string w A l.length l) : l = [] ∨ ∃ bk o, A = some ⟨bk, o, none⟩ ∧ bk < w.heap.size ∧ ∀ (j : Nat) x, l[j]? = some x → w.cell? ⟨bk, o + j, none⟩ = some (.string x) := by
  have h2 := (Kd.reads_of_C (enc := Value.string) (d := ByteArray.empty) (h1 := fun _ => rfl) h : ReadsOf Value.string ByteArray.empty w A l.length l)
  rcases Nat.eq_zero_or_pos l.length with h0 | h0
  · exact .inl (List.eq_nil_of_length_eq_zero h0)
  · obtain ⟨⟨bk, o, sp⟩, e, hc⟩ := h2.2.2 h0
    have hc0 := hc 0 h0
    have hs : sp = none := by
      cases sp with
      | none => rfl
      | some q =>
        exfalso
        simp only [Addr.add, if_true, World.cell?] at hc0
        split at hc0 <;> simp at hc0
    subst hs
    refine .inr ⟨bk, o, e, World.block_lt_of_cell? w _ hc0, fun j x hx => ?_⟩
    have hj : j < l.length := (List.getElem?_eq_some_iff.mp hx).1
    have := hc j hj
    rw [List.getD_eq_getElem?_getD, hx] at this
    have ea : (⟨bk, o, none⟩ : Addr).add j = ⟨bk, o + j, none⟩ := by
      unfold Addr.add
      split
      · subst_vars; rfl
      · rfl
    rw [ea] at this
    exact this
end Kd
end Go.Proofs.YtcgchblljhbdaaaDoor
namespace Go.Proofs.YtcgchblljhbdaaaDoor.XW
open Go Go.RowKit Go.Proofs.YtcgchblljhbdaaaDoorW.PrintWords Go.Proofs.YtcgchblljhbdaaaDoorW.PrintLast
section
variable {P : Program} {ops : Array Oper} {rest : List Oper} {o : Oper} {a : Act} {Q : Exit → Act → World → Prop} {Kc : Act → World → Prop} {W : World}
/-- A string appended to a row of bytes of the call's own, beside others: where the new row lies, too. -/
theorem run_append_str {w0 : World} (base : Nat) (s x : Operand) (t u e : TypeId)
    (ho : o.op = .call { callee := .builtin .append, args := #[s, x], argTypes := #[t, u] })
    (ht : P.underlying t = some (.slice e)) (hu : P.underlying u = some .string) (hinfo : (P.info? e).map (fun i => (i.zero, i.size, i.bytes)) = some (some (.int .u8 0), 1, 1))
    (v : Value) (xs : List Int) (y : ByteArray) (ok : Nat → Prop) (hs : a.eval s = v) (hx : a.eval x = .string y)
    (HO : Kd.R (Kd.int .u8) e W base ok v xs) (HB : Below base w0 W) (hbase : base ≤ W.heap.size) (hl : xs.length + y.size ≤ 140737488355328) (hF : ∀ k, W.heap.size ≤ k → ok k) :
    ∃ v1 w1, (execOp a.eval o).run P W = .ok (.value v1) w1 ∧ Kd.R (Kd.int .u8) e w1 base ok v1 (xs ++ bytesOf y) ∧ Below base w0 w1 ∧ W.grownBy w1 v.ownBlock ∧ (v1.ownBlock = v.ownBlock ∨ ∃ b, v1.ownBlock = some b ∧ W.heap.size ≤ b) := by
  obtain ⟨i0, hi, hzz⟩ := Option.map_eq_some_iff.1 hinfo
  simp only [Prod.mk.injEq] at hzz
  obtain ⟨hz0, hz1, hz2⟩ := hzz
  have hown : W.ownsRow base e 1 v xs.length (nums .u8 xs) := Kd.own_of_R HO
  obtain ⟨v', w', hr, h2, h3, h4⟩ := Lib.run_append_own_string (P := P) W base t u o.type e i0 ht hu hi hz0 hz1 hz2 v xs.length (nums .u8 xs) hown y (by simp only [maxLen]; omega) hl hbase
  have hat : v'.ownBlock = v.ownBlock ∨ ∃ b, v'.ownBlock = some b ∧ W.heap.size ≤ b := by
    rcases hown.2 with ⟨rfl, h0⟩ | ⟨g, cap, cur, rfl, hbg, hg, hnc, hcm, hcs, htake⟩
    · by_cases hm : y.size = 0
      · rw [h4.mpr ⟨rfl, hm⟩]
        exact .inl rfl
      · have hr2 := run_append_nil_string (P := P) W t u o.type e i0 (.int .u8 0) ht hu hi hz0 y (by omega) (by omega) (by rw [hz2]; omega)
        rw [hr2] at hr
        injection hr with hv _
        rw [← hv]
        exact .inr ⟨_, rfl, Nat.le_refl _⟩
    · by_cases hroom : xs.length + y.size ≤ cap
      · have hr2 := Lib.run_append_room_string (P := P) W t u o.type e i0 ht hu hi hz1 g xs.length cap cur hg y hroom (by omega)
        rw [hr2] at hr
        injection hr with hv _
        rw [← hv]
        exact .inl rfl
      · have hxl : (nums .u8 xs).length = xs.length := by simpa using hown.1
        have hr2 := Lib.run_append_grow_string (P := P) W t u o.type e i0 (.int .u8 0) ht hu hi hz0 ⟨g, 0, none⟩ xs.length cap (nums .u8 xs) (by rw [hz1]; omega) (hown.cells (g := g) rfl) y (by omega) (by omega) (by rw [hz2]; exact growslice_fits (by omega) (by omega))
        rw [hr2] at hr
        injection hr with hv _
        rw [← hv]
        exact .inr ⟨_, rfl, Nat.le_refl _⟩
  have hl2 : (xs ++ bytesOf y).length = xs.length + y.size := by rw [List.length_append, bytesOf_length]
  have hc : nums .u8 (xs ++ bytesOf y) = nums .u8 xs ++ Lib.strCells y := by
    rw [nums_append]
    congr 1
    simp [nums, bytesOf, Lib.strCells]
  refine ⟨v', w', ?_, Kd.R_of_own (h1 := fun _ => rfl) (ok := ok) (by rw [hl2]; show w'.ownsRow base e 1 v' _ (nums .u8 (xs ++ bytesOf y)); rw [hc]; exact h2) (fun k hk => ?_), HB.grown h3 hbase (own_base hown), h3, hat⟩
  · unfold execOp
    simp only [ho, resolve, invoke, builtin, Sem.run_bind, Sem.run_pure, Result.andThen_ok, List.map_toArray, List.map_cons, List.map_nil, hs, hx, hr]
  · rcases hat with h | ⟨b, h, hb⟩
    · exact HO.1 k (h.symm.trans hk)
    · rw [hk] at h
      injection h with h
      exact hF k (by omega)
theorem R_append_str {w0 : World} (base : Nat) (hgd : o.guard = none) (s x : Operand) (t u e : TypeId)
    (ho : o.op = .call { callee := .builtin .append, args := #[s, x], argTypes := #[t, u] })
    (ht : P.underlying t = some (.slice e)) (hu : P.underlying u = some .string) (hinfo : (P.info? e).map (fun i => (i.zero, i.size, i.bytes)) = some (some (.int .u8 0), 1, 1))
    (v : Value) (xs : List Int) (y : ByteArray) (ok : Nat → Prop) (hs : a.eval s = v) (hx : a.eval x = .string y)
    (HO : Kd.R (Kd.int .u8) e W base ok v xs) (HB : Below base w0 W) (hbase : base ≤ W.heap.size) (hl : xs.length + y.size ≤ 140737488355328) (hF : ∀ k, W.heap.size ≤ k → ok k)
    (h : ∀ v1 w1, Kd.R (Kd.int .u8) e w1 base ok v1 (xs ++ bytesOf y) → Below base w0 w1 → W.grownBy w1 v.ownBlock → (v1.ownBlock = v.ownBlock ∨ ∃ b, v1.ownBlock = some b ∧ W.heap.size ≤ b) → wpList P ops Q rest (a.put o.dst v1) w1) : wpList P ops Q (o :: rest) a W := by
  obtain ⟨v1, w1, hr, h1, h2, h3, h4⟩ := run_append_str (P := P) (o := o) (a := a) base s x t u e ho ht hu hinfo v xs y ok hs hx HO HB hbase hl hF
  exact Kd.event_run hgd hr (h v1 w1 h1 h2 h3 h4)
theorem R_append_str_step {w0 : World} (base : Nat) (hw : Region.wanted o (yielded ops a.tmps) = true) (s x : Operand) (t u e : TypeId)
    (ho : o.op = .call { callee := .builtin .append, args := #[s, x], argTypes := #[t, u] })
    (ht : P.underlying t = some (.slice e)) (hu : P.underlying u = some .string) (hinfo : (P.info? e).map (fun i => (i.zero, i.size, i.bytes)) = some (some (.int .u8 0), 1, 1))
    (v : Value) (xs : List Int) (y : ByteArray) (ok : Nat → Prop) (hs : a.eval s = v) (hx : a.eval x = .string y)
    (HO : Kd.R (Kd.int .u8) e W base ok v xs) (HB : Below base w0 W) (hbase : base ≤ W.heap.size) (hl : xs.length + y.size ≤ 140737488355328) (hF : ∀ k, W.heap.size ≤ k → ok k)
    (h : ∀ v1 w1, Kd.R (Kd.int .u8) e w1 base ok v1 (xs ++ bytesOf y) → Below base w0 w1 → W.grownBy w1 v.ownBlock → (v1.ownBlock = v.ownBlock ∨ ∃ b, v1.ownBlock = some b ∧ W.heap.size ≤ b) → Kc (a.put o.dst v1) w1) : if Region.wanted o (yielded ops a.tmps) = true then Oper.wp P o a W Kc Q else Kc (a.put o.dst undef) W := by
  obtain ⟨v1, w1, hr, h1, h2, h3, h4⟩ := run_append_str (P := P) (o := o) (a := a) base s x t u e ho ht hu hinfo v xs y ok hs hx HO HB hbase hl hF
  exact event_step hw hr (h v1 w1 h1 h2 h3 h4)
end
end Go.Proofs.YtcgchblljhbdaaaDoor.XW
