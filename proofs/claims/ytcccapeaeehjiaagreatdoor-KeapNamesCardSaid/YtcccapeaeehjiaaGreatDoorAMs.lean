/- slices.Insert answers calls: out of its two contracts. -/
import Derived.Test.YtcccapeaeehjiaaGreatDoorAMr
namespace Go.Proofs.YtcccapeaeehjiaaGreatDoor.AM
noncomputable section
open Go Go.RowKit
set_option linter.unusedVariables false
set_option linter.unusedSimpArgs false
def ShiftC (P : Program) (f es : Nat) : Prop := ∀ (b off n c i vb voff m vc : Nat) (cs vs : List Value) (w : World), i < n → 0 < m → n + m ≤ c → c ≤ 9223372036854775807 → vb ≠ b → cs.length = n * es → vs.length = m * es →
  (∀ j v, cs[j]? = some v → w.cell? ⟨b, off + j, none⟩ = some v) → (∀ j, j < (n + m) * es → (w.cell? ⟨b, off + j, none⟩).isSome = true) → (∀ j, j < (n + m) * es → w.frozen? ⟨b, off + j, none⟩ = false) →
  (∀ j v, vs[j]? = some v → w.cell? ⟨vb, voff + j, none⟩ = some v) → (∀ v ∈ cs, v.oneCell' = true) → (∀ v ∈ vs, v.oneCell' = true) →
  ∀ (tA tB : TypeId) (kA kB : Nat), w.shape? vb = some (tA, kA) → w.shape? b = some (tB, kB) → kB ≠ 0 → w.frozen? ⟨vb, voff, none⟩ = false → w.frozen? ⟨vb, kA, none⟩ = false →
  Calls P f #[.slice (some ⟨b, off, none⟩) n c, .int .i64 i, .slice (some ⟨vb, voff, none⟩) m vc] w fun e w' =>
      e = .returned (.slice (some ⟨b, off, none⟩) (n + m) c) ∧ w' = (w.drew.setCells b (off + (i + m) * es) (cs.drop (i * es))).setCells b (off + i * es) vs
def GrowC (P : Program) (f e es : Nat) (i0 : TypeInfo) (z : Value) : Prop := ∀ (b off n c i vb voff m vc : Nat) (cs vs : List Value) (w : World), i < n → 0 < m → n ≤ c → c < n + m → (n + m) * i0.bytes ≤ 140737488355328 → n + m ≤ 140737488355328 → cs.length = n * es → vs.length = m * es →
  (∀ j v, cs[j]? = some v → w.cell? ⟨b, off + j, none⟩ = some v) → (∀ j v, vs[j]? = some v → w.cell? ⟨vb, voff + j, none⟩ = some v) → (∀ v ∈ cs, v.oneCell' = true) → (∀ v ∈ vs, v.oneCell' = true) →
  Calls P f #[.slice (some ⟨b, off, none⟩) n c, .int .i64 i, .slice (some ⟨vb, voff, none⟩) m vc] w fun x w' =>
      x = .returned (.slice (some ⟨w.heap.size, 0, none⟩) (n + m) (grownCap w (n + m) c e)) ∧
      w' = (((w.alloc (.cells ((cs.take (i * es)).toArray ++ Builtin.zeroCells z.cells (n + m - i) ++ Builtin.zeroCells z.cells (grownCap w (n + m) c e - (n + m))) e)).drew.setCells w.heap.size (i * es) vs).drew).setCells w.heap.size ((i + m) * es) (cs.drop (i * es))
/-- Its answer; none: the body is run (or it can't be told). -/
def insT (f e es bytes : Nat) : SumT := fun g args nx h =>
  if g = f then
    match args with
    | [.slice (some a) n 1, .int .i64 i, .slice (some b) k 1] =>
      match h.get a.block, h.get b.block, agets h b.block b.off (k * es) with
      | some oa, some ob, some vs =>
        if a.off = 0 ∧ oa.own = true ∧ oa.elem = e ∧ oa.es = es ∧ oa.cells.length = n * es ∧ 0 ≤ i ∧ i.toNat < n ∧ 0 < k ∧ a.block ≠ b.block ∧ ob.own = true ∧ ob.es ≠ 1 ∧ (n + k) * bytes ≤ 140737488355328 ∧ n + k ≤ 140737488355328 then
          some (some (.slice (some ⟨nx, 0, none⟩) (n + k) 1, nx + 1, (h.set a.block none).set nx (some ⟨oa.cells.take (i.toNat * es) ++ vs ++ oa.cells.drop (i.toNat * es), e, true, es⟩)))
        else none
      | _, _, _ => none
    | _ => none
  else none
/-- Cells put over cells, from the end on. -/
theorem PR.over {m : M} {cells vs : List Value} {cur : Array Value} {vs' : List Value} (o : Nat) (ho : o ≤ cells.length) (p : PR m (cells.take o) cur) (r : L2 (CR m) vs vs') (hl : o + vs.length ≤ cur.size) : PR m (cells.take o ++ vs) (aputA cur o vs') := by
  have := PR.app p r (by rw [List.length_take, Nat.min_eq_left ho]; exact hl)
  rw [List.length_take, Nat.min_eq_left ho] at this
  exact this
/-- The row behind slices.Insert where there was room: v in the middle, what stood from i on behind it. -/
theorem PR.ins {m : M} {cells vs : List Value} {cur : Array Value} {vs' cs' : List Value} {o q : Nat} (ho : o ≤ cells.length) (p : PR m cells cur) (r : L2 (CR m) vs vs') (hq : q = vs.length) (hl : cells.length + q ≤ cur.size)
    (hc' : L2 (CR m) cells cs') : PR m (cells.take o ++ vs ++ cells.drop o) (aputA (aputA cur (o + q) (cs'.drop o)) o vs') := by
  have l1 := r.len
  have l2 := hc'.len
  have hd : (cs'.drop o).length = cells.length - o := by rw [List.length_drop, ← l2]
  refine ⟨by rw [size_aputA, size_aputA]; simp only [List.length_append, List.length_take, List.length_drop]; omega, fun j v hv => ?_⟩
  rw [get_aputA vs' _ o j (by rw [size_aputA]; omega), get_aputA (cs'.drop o) _ (o + q) j (by rw [hd]; omega)]
  have ht : (cells.take o).length = o := by rw [List.length_take]; omega
  by_cases h1 : j < o
  · rw [if_neg (by omega), if_neg (by omega)]
    rw [List.append_assoc, List.getElem?_append_left (by omega), List.getElem?_take_of_lt h1] at hv
    exact p.2 j v hv
  · by_cases h2 : j < o + q
    · rw [if_pos (by omega)]
      rw [List.append_assoc, List.getElem?_append_right (by omega), ht, List.getElem?_append_left (by omega)] at hv
      exact r.get _ v hv
    · rw [if_neg (by omega)]
      rw [List.append_assoc, List.getElem?_append_right (by omega), ht, List.getElem?_append_right (by omega), List.getElem?_drop] at hv
      have hlt := (List.getElem?_eq_some_iff.1 hv).1
      rw [if_pos (by rw [hd]; omega), List.getElem?_drop]
      have e : o + (j - o - vs.length) = o + (j - (o + q)) := by omega
      rw [e] at hv
      exact hc'.get _ v hv
theorem shape_cells {w : World} {g : Nat} {cur : Array Value} {t : TypeId} {fr : Nat × Nat} (h : w.heap[g]? = some (.cells cur t fr)) : w.shape? g = some (t, cur.size) := by
  unfold World.shape?
  rw [h]
theorem frozen_not {w : World} {g o : Nat} {cur : Array Value} {t : TypeId} {fr : Nat × Nat} (h : w.heap[g]? = some (.cells cur t fr)) (hf : fr.1 = fr.2 ∨ o < fr.1) : w.frozen? ⟨g, o, none⟩ = false := by
  simp only [World.frozen?, h]
  rcases hf with hf | hf <;> simp only [Bool.and_eq_false_iff, decide_eq_false_iff_not] <;> omega
theorem insT_room {P : Program} {f e es : Nat} (hS : ShiftC P f es) (he : 1 < es) {F : Nat → Prop} {w0 w : World} {m : M} {h : Tr AObj} {nx : Nat} (R : Rel F w0 m h w) (hn : ¬ m.dom nx) {a b : Addr} {n k i c' cb : Nat} {oa ob : AObj} {vs : List Value}
    (ha : h.get a.block = some oa) (hb : h.get b.block = some ob) (hv : agets h b.block b.off (k * es) = some vs) (a0 : a.off = 0) (own : oa.own = true) (hel : oa.elem = e) (hes : oa.es = es) (hlen : oa.cells.length = n * es) (hi : i < n) (hk : 0 < k) (hne : a.block ≠ b.block) (ownb : ob.own = true) (hob : ob.es ≠ 1)
    (hda : m.dom a.block) (hc : n ≤ c') (hbd : a.off + c' * m.es a.block ≤ m.sz a.block) (hmx : c' ≤ 9223372036854775807) (hroom : n + k ≤ c') :
    Calls P f #[.slice (some (mv m a)) n c', .int .i64 i, .slice (some (mv m b)) k cb] w fun x w' => ∃ m' v', x = .returned v' ∧ Ext m m' ∧ Dom m nx (nx + 1) m' ∧ VR m' (.slice (some ⟨nx, 0, none⟩) (n + k) 1) v' ∧
      Rel F w0 m' ((h.set a.block none).set nx (some ⟨oa.cells.take (i * es) ++ vs ++ oa.cells.drop (i * es), e, true, es⟩)) w' := by
  obtain ⟨g, cur, fr, g1, g2, g3, g4, g5, g6, g7⟩ := R.own _ oa ha own
  obtain ⟨gb, curb, frb, b1, b2, b3, b4, b5, b6, b7⟩ := R.own _ ob hb ownb
  have hcn : oa.cells ≠ [] := by
    intro q
    rw [q] at hlen
    have : 0 < n * es := Nat.mul_pos (by omega) (by omega)
    simp at hlen; omega
  have hbn : ob.cells ≠ [] := by
    have hk1 : 0 < k * es := Nat.mul_pos hk (by omega)
    have hl := agets_len hv
    have q := agets_get hv 0 vs[0] (List.getElem?_eq_getElem (by omega))
    unfold aget at q
    rw [hb, Option.bind_some] at q
    exact ne_nil_of_get q
  have heI : es ≠ ITER := by rw [← hes]; exact g3.ne hcn
  replace g3 := g3.row' hcn
  replace b3 := b3.row' hbn
  have hgg : gb ≠ g := by
    have := R.apart _ _ _ _ hb ha ownb own (Ne.symm hne)
    rw [b1, g1] at this
    exact this
  have hma : mv m a = ⟨g, 0, none⟩ := by unfold mv; rw [g1, a0]
  have hmb : mv m b = ⟨gb, b.off, none⟩ := by unfold mv; rw [b1]; simp
  obtain ⟨vs', v1, v2, v3⟩ := agets_sound R hv
  have hvl := agets_len hv
  have hL : L2 (CR m) vs vs' := L2.of_get (by omega) v3
  have hesm := R.es _ oa ha
  rw [hesm, hes, a0, Nat.zero_add, ← g5] at hbd
  have hfit : (n + k) * es ≤ cur.size := Nat.le_trans (Nat.mul_le_mul_right _ hroom) hbd
  have hexp : (n + k) * es = n * es + k * es := Nat.add_mul _ _ _
  have hie : i * es ≤ n * es := Nat.mul_le_mul_right _ (by omega)
  have hke : (i + k) * es = i * es + k * es := Nat.add_mul _ _ _
  have hn0 : 0 < n * es := Nat.mul_pos (by omega) (by omega)
  have frz1 : fr.1 = fr.2 ∨ cur.size ≤ fr.1 := g4.imp id And.left
  have frb1 : frb.1 = frb.2 := b4.resolve_right (fun q => hob q.2)
  have hcsL : L2 (CR m) oa.cells (cur.toList.take (n * es)) := L2.of_get (by rw [List.length_take, Array.length_toList, hlen]; omega) (fun j v hj => by
    obtain ⟨v', q1, q2⟩ := g7 j v hj
    have hjl : j < n * es := by have := (List.getElem?_eq_some_iff.1 hj).1; omega
    exact ⟨v', by rw [List.getElem?_take_of_lt hjl]; simpa using q1, q2⟩)
  rw [hma, hmb]
  have call := hS g 0 n c' i gb b.off k cb (cur.toList.take (n * es)) vs' w hi hk hroom hmx hgg (by rw [List.length_take, Array.length_toList]; omega) (by omega)
    (fun j v hj => by
      have hjl : j < n * es := by have := (List.getElem?_eq_some_iff.1 hj).1; rw [List.length_take] at this; omega
      rw [List.getElem?_take_of_lt hjl] at hj
      simp only [World.cell?, g3, Nat.zero_add]
      simpa using hj)
    (fun j hj => by
      simp only [World.cell?, g3, Nat.zero_add]
      rw [if_neg (by simp), Array.getElem?_eq_getElem (by omega)]; rfl)
    (fun j hj => frozen_not g3 (by omega))
    (fun j v hj => by have := v2 j v hj; rw [hmb, Addr.add_lit] at this; exact this)
    (fun v hv' => by obtain ⟨x, _, hx⟩ := hcsL.mem v hv'; exact hx.one.2)
    (fun v hv' => by obtain ⟨x, _, hx⟩ := hL.mem v hv'; exact hx.one.2)
    _ _ _ _ (shape_cells b3) (shape_cells g3) (by omega) (frozen_not b3 (.inl frb1)) (frozen_not b3 (.inl frb1))
  refine Calls.mono call ?_
  rintro x w' ⟨rfl, rfl⟩
  rw [Nat.zero_add, Nat.zero_add]
  have hd3 : w.drew.heap[g]? = some (.cells cur oa.elem fr) := g3
  have H1 := heap_setCells g ((cur.toList.take (n * es)).drop (i * es)) ((i + k) * es) w.drew cur _ fr hd3
  have H2 := heap_setCells g vs' (i * es) _ _ _ fr H1
  have hsz : (aputA (aputA cur ((i + k) * es) ((cur.toList.take (n * es)).drop (i * es))) (i * es) vs').size = cur.size := by rw [size_aputA, size_aputA]
  have hsub : ∀ j q, (h.set a.block none).get j = some q → h.get j = some q := by
    intro j q hj
    rw [Tr.get_set] at hj
    split at hj
    · cases hj
    · exact hj
  have hnej : ∀ j q, (h.set a.block none).get j = some q → j ≠ a.block := by
    intro j q hj hjb
    rw [Tr.get_set, if_pos hjb] at hj; cases hj
  have hp := PR.ins (m := m) (cells := oa.cells) (vs := vs) (cur := cur) (vs' := vs') (cs' := cur.toList.take (n * es)) (o := i * es) (q := k * es) (by omega) ⟨g6.1, g7⟩ hL hvl.symm (by omega) hcsL
  rw [← hke] at hp
  refine ⟨_, _, rfl, M.add_ext m nx ⟨g, 0, none⟩ (aputA (aputA cur ((i + k) * es) ((cur.toList.take (n * es)).drop (i * es))) (i * es) vs').size es hn, dom_add _ _ _ _ _, VR.newSlice m nx g _ es (n + k) c' hroom (by rw [hsz]; exact hbd) hmx, ?_⟩
  refine R.add (h' := h.set a.block none) nx hn ?_ hsub g (fun j q hj hq => ?_) g2 _ _ e es fr (by rw [← hel]; exact H2) (.inl (g4.resolve_right (fun q => by omega))) hp.1 hp.2 (fun h => absurd h (by omega)) heI
  · exact below_setCells' g g2 vs' _ w _ (below_setCells' g g2 _ _ w _ (Keep.refl _ w).drew)
  · have hap := R.apart j a.block q oa (hsub j q hj) ha hq own (hnej j q hj)
    rw [g1] at hap
    refine ⟨?_, hap⟩
    rw [heap_setCells_ne g _ hap, heap_setCells_ne g _ hap]
    rfl
theorem insT_more {P : Program} {f e es : Nat} {i0 : TypeInfo} {z : Value} (hG : GrowC P f e es i0 z) (hzc : z.cells.size = es) (he : 1 < es) {F : Nat → Prop} {w0 w : World} {m : M} {h : Tr AObj} {nx : Nat} (R : Rel F w0 m h w) (hn : ¬ m.dom nx) {a b : Addr} {n k i c' cb : Nat} {oa : AObj} {vs : List Value}
    (ha : h.get a.block = some oa) (hv : agets h b.block b.off (k * es) = some vs) (a0 : a.off = 0) (own : oa.own = true) (hes : oa.es = es) (hlen : oa.cells.length = n * es) (hi : i < n) (hk : 0 < k) (hne : a.block ≠ b.block)
    (hc : n ≤ c') (hroom : c' < n + k) (hb1 : (n + k) * i0.bytes ≤ 140737488355328) (hb2 : n + k ≤ 140737488355328) :
    Calls P f #[.slice (some (mv m a)) n c', .int .i64 i, .slice (some (mv m b)) k cb] w fun x w' => ∃ m' v', x = .returned v' ∧ Ext m m' ∧ Dom m nx (nx + 1) m' ∧ VR m' (.slice (some ⟨nx, 0, none⟩) (n + k) 1) v' ∧
      Rel F w0 m' ((h.set a.block none).set nx (some ⟨oa.cells.take (i * es) ++ vs ++ oa.cells.drop (i * es), e, true, es⟩)) w' := by
  obtain ⟨g, cur, fr, g1, g2, g3, g4, g5, g6, g7⟩ := R.own _ oa ha own
  have hcn : oa.cells ≠ [] := by
    intro q
    rw [q] at hlen
    have : 0 < n * es := Nat.mul_pos (by omega) (by omega)
    simp at hlen; omega
  have heI : es ≠ ITER := by rw [← hes]; exact g3.ne hcn
  replace g3 := g3.row' hcn
  have hma : mv m a = ⟨g, 0, none⟩ := by unfold mv; rw [g1, a0]
  obtain ⟨vs', v1, v2, v3⟩ := agets_sound R hv
  have hvl := agets_len hv
  have hL : L2 (CR m) vs vs' := L2.of_get (by omega) v3
  have hke : (i + k) * es = i * es + k * es := Nat.add_mul _ _ _
  have hie : i * es ≤ n * es := Nat.mul_le_mul_right _ (by omega)
  have hcsL : L2 (CR m) oa.cells (cur.toList.take (n * es)) := L2.of_get (by rw [List.length_take, Array.length_toList, hlen]; omega) (fun j v hj => by
    obtain ⟨v', q1, q2⟩ := g7 j v hj
    have hjl : j < n * es := by have := (List.getElem?_eq_some_iff.1 hj).1; omega
    exact ⟨v', by rw [List.getElem?_take_of_lt hjl]; simpa using q1, q2⟩)
  rw [hma]
  have hmb : mv m b = ⟨(mv m b).block, (mv m b).off, none⟩ := rfl
  rw [hmb]
  have call := hG g 0 n c' i (mv m b).block (mv m b).off k cb (cur.toList.take (n * es)) vs' w hi hk hc hroom hb1 hb2 (by rw [List.length_take, Array.length_toList]; omega) (by omega)
    (fun j v hj => by
      have hjl : j < n * es := by have := (List.getElem?_eq_some_iff.1 hj).1; rw [List.length_take] at this; omega
      rw [List.getElem?_take_of_lt hjl] at hj
      simp only [World.cell?, g3, Nat.zero_add]
      simpa using hj)
    (fun j v hj => by have := v2 j v hj; rw [hmb, Addr.add_lit] at this; exact this)
    (fun v hv' => by obtain ⟨x, _, hx⟩ := hcsL.mem v hv'; exact hx.one.2)
    (fun v hv' => by obtain ⟨x, _, hx⟩ := hL.mem v hv'; exact hx.one.2)
  refine Calls.mono call ?_
  rintro x w' ⟨rfl, rfl⟩
  generalize hGr : grownCap w (n + k) c' e = Gr
  have hGk : n + k ≤ Gr := by rw [← hGr]; exact grownCap_need _ _ _ _
  have hGm : Gr ≤ 9223372036854775807 := by rw [← hGr]; have := grownCap_le_maxLen w (n + k) c' e (by unfold maxLen; omega); unfold maxLen at this; omega
  generalize hRow : ((cur.toList.take (n * es)).take (i * es)).toArray ++ Builtin.zeroCells z.cells (n + k - i) ++ Builtin.zeroCells z.cells (Gr - (n + k)) = ROW
  have hRs : ROW.size = Gr * es := by
    rw [← hRow, Array.size_append, Array.size_append, zeroCells_size, zeroCells_size, hzc, List.size_toArray, List.length_take, List.length_take, Array.length_toList, Nat.min_eq_left (by omega)]
    rw [← Nat.add_mul, ← Nat.add_mul]
    congr 1; omega
  have hGe : (n + k) * es ≤ Gr * es := Nat.mul_le_mul_right _ hGk
  have hexp : (n + k) * es = n * es + k * es := Nat.add_mul _ _ _
  have hlt := own_lt' R
  have ht : (oa.cells.take (i * es)).length = i * es := by rw [List.length_take]; omega
  have hp0 : PR m (oa.cells.take (i * es)) ROW := by
    refine ⟨by omega, fun j v hj => ?_⟩
    have hjl : j < i * es := by have := (List.getElem?_eq_some_iff.1 hj).1; omega
    rw [List.getElem?_take_of_lt hjl] at hj
    obtain ⟨v', q1, q2⟩ := hcsL.get j v hj
    refine ⟨v', ?_, q2⟩
    rw [← hRow, Array.getElem?_append_left (by rw [Array.size_append, List.size_toArray, List.length_take, List.length_take, Array.length_toList]; omega), Array.getElem?_append_left (by rw [List.size_toArray, List.length_take, List.length_take, Array.length_toList]; omega)]
    rw [List.getElem?_toArray, List.getElem?_take_of_lt hjl]
    exact q1
  have hp1 := PR.app hp0 hL (by omega)
  have hds : L2 (CR m) (oa.cells.drop (i * es)) ((cur.toList.take (n * es)).drop (i * es)) := L2.of_get (by simp only [List.length_drop]; rw [hcsL.len]) (fun j v hj => by
    rw [List.getElem?_drop] at hj ⊢
    exact hcsL.get _ v hj)
  have hp2 := PR.app hp1 hds (by rw [size_aputA, List.length_append, List.length_drop]; omega)
  rw [List.length_append, ht, hvl, ← hke] at hp2
  have H0 : ((w.alloc (.cells ROW e)).drew).heap[w.heap.size]? = some (.cells ROW e (0, 0)) := by
    show (w.heap.push _)[w.heap.size]? = _
    simp
  have H1 := heap_setCells w.heap.size vs' (i * es) _ _ _ _ H0
  have H2 := heap_setCells w.heap.size ((cur.toList.take (n * es)).drop (i * es)) ((i + k) * es) (((w.alloc (.cells ROW e)).drew.setCells w.heap.size (i * es) vs').drew) _ _ _ H1
  have hsub : ∀ j q, (h.set a.block none).get j = some q → h.get j = some q := by
    intro j q hj
    rw [Tr.get_set] at hj
    split at hj
    · cases hj
    · exact hj
  have hNF : ¬ F w.heap.size := fun hF => Nat.lt_irrefl _ (R.base_le _ hF)
  refine ⟨_, _, rfl, M.add_ext m nx ⟨w.heap.size, 0, none⟩ (aputA (aputA ROW (i * es) vs') ((i + k) * es) ((cur.toList.take (n * es)).drop (i * es))).size es hn, dom_add _ _ _ _ _, VR.newSlice m nx w.heap.size _ es (n + k) Gr hGk (by rw [size_aputA, size_aputA, hRs]; exact Nat.le_refl _) hGm, ?_⟩
  refine R.add (h' := h.set a.block none) nx hn ?_ hsub w.heap.size (fun j q hj hq => ?_) hNF _ _ e es (0, 0) H2 (.inl rfl) hp2.1 hp2.2 (fun h => absurd h (by omega)) heI
  · exact below_setCells' _ hNF _ _ w _ ((below_setCells' _ hNF _ _ w _ ((Keep.refl _ w).alloc R.base_le _).drew).drew)
  · have hb := hlt j q (hsub j q hj) hq
    refine ⟨?_, Nat.ne_of_lt hb⟩
    rw [heap_setCells_ne _ _ (Nat.ne_of_lt hb)]
    show (((w.alloc (.cells ROW e)).drew.setCells w.heap.size (i * es) vs')).heap[(m.loc j).block]? = _
    rw [heap_setCells_ne _ _ (Nat.ne_of_lt hb)]
    exact alloc_other w _ _ hb
theorem VR.inv_slc1 {m : M} {a : Addr} {n : Nat} {v' : Value} (r : VR m (.slice (some a) n 1) v') : ∃ c', v' = .slice (some (mv m a)) n c' ∧ m.dom a.block ∧ n ≤ c' ∧ a.off + c' * m.es a.block ≤ m.sz a.block ∧ c' ≤ 9223372036854775807 := by
  rcases r.inv_slc with ⟨_, c', rfl, h1, h2, h3⟩ | ⟨h0, _⟩
  · exact ⟨c', rfl, h1, h2, h3, r.slc_le rfl⟩
  · cases h0
theorem insT_ok {P : Program} {gl : Gv} {f e es bytes : Nat} {i0 : TypeInfo} {z : Value} (hS : ShiftC P f es) (hG : GrowC P f e es i0 z) (hzc : z.cells.size = es) (hb : i0.bytes = bytes) (he : 1 < es) : TOK P gl (insT f e es bytes) := by
  have inv : ∀ {g : FuncId} {args : List Value} {nx : Nat} {h : Tr AObj} {v : Value} {n' : Nat} {h' : Tr AObj}, (insT f e es bytes g args nx h).getD none = some (v, n', h') →
      ∃ (a b : Addr) (n k : Nat) (i : Int) (oa ob : AObj) (vs : List Value), g = f ∧ args = [.slice (some a) n 1, .int .i64 i, .slice (some b) k 1] ∧ h.get a.block = some oa ∧ h.get b.block = some ob ∧ agets h b.block b.off (k * es) = some vs ∧
        (a.off = 0 ∧ oa.own = true ∧ oa.elem = e ∧ oa.es = es ∧ oa.cells.length = n * es ∧ 0 ≤ i ∧ i.toNat < n ∧ 0 < k ∧ a.block ≠ b.block ∧ ob.own = true ∧ ob.es ≠ 1 ∧ (n + k) * bytes ≤ 140737488355328 ∧ n + k ≤ 140737488355328) ∧
        v = .slice (some ⟨nx, 0, none⟩) (n + k) 1 ∧ n' = nx + 1 ∧ h' = (h.set a.block none).set nx (some ⟨oa.cells.take (i.toNat * es) ++ vs ++ oa.cells.drop (i.toNat * es), e, true, es⟩) := by
    intro g args nx h v n' h' q
    unfold insT at q
    split at q
    · rename_i hgf
      split at q
      · rename_i a n i b k
        split at q
        · rename_i oa ob vs h1 h2 h3
          split at q
          · rename_i hc
            simp only [Option.getD_some, Option.some.injEq, Prod.mk.injEq] at q
            exact ⟨a, b, n, k, i, oa, ob, vs, hgf, rfl, h1, h2, h3, hc, q.1.symm, q.2.1.symm, q.2.2.symm⟩
          · cases q
        · cases q
      · cases q
    · cases q
  refine ⟨fun {g args nx h v n' h'} q => ?_, fun {g args args' nx h v n' h' F w0 w m} q R GG hargs hf => ?_⟩
  · obtain ⟨_, _, _, _, _, _, _, _, _, _, _, _, _, _, _, h1, _⟩ := inv q
    omega
  · obtain ⟨a, b, n, k, i, oa, ob, vs, rfl, rfl, h1, h2, h3, ⟨c1, c2, c3, c4, c5, c6, c7, c8, c9, c10, c11, c12, c13⟩, rfl, rfl, rfl⟩ := inv q
    cases hargs with
    | cons r1 t1 => cases t1 with
      | cons r2 t2 => cases t2 with
        | cons r3 t3 => cases t3 with
          | nil =>
            obtain ⟨c', rfl, d1, d2, d3, d4⟩ := r1.inv_slc1
            obtain ⟨cb, rfl, _⟩ := r3.inv_slc1
            rw [r2.inv_int]
            have hi : i = ((i.toNat : Nat) : Int) := (Int.toNat_of_nonneg c6).symm
            have hnx := hf nx (Nat.le_refl _) (Nat.lt_succ_self _)
            by_cases hroom : n + k ≤ c'
            · have := insT_room (cb := cb) hS he R hnx h1 h2 h3 c1 c2 c3 c4 c5 c7 c8 c9 c10 c11 d1 d2 d3 d4 hroom
              rw [← hi] at this
              exact this
            · have := insT_more (cb := cb) hG hzc he R hnx h1 h3 c1 c2 c4 c5 c7 c8 c9 d2 (by omega) (by rw [hb]; exact c12) c13
              rw [← hi] at this
              exact this
end
end Go.Proofs.YtcccapeaeehjiaaGreatDoor.AM
