/- optn.All hands back a new row: out of table's answer. -/
import Derived.Test.YtcccapeaeehjiaaGreatDoorAMonceB
import Derived.Test.YtcccapeaeehjiaaGreatDoorAM4
namespace Go.Proofs.YtcccapeaeehjiaaGreatDoor.Once
open Go Go.Proofs Go.RowKit
set_option linter.unusedVariables false
set_option linter.unusedSimpArgs false
set_option maxRecDepth 100000 in
set_option maxHeartbeats 1600000 in
theorem clo_ok {elem es n : Nat} {cells : List AM.LV} (hT : AM.RowC Tryz.prog 372 elem es n cells) (pl : Addr) (x : Value) (w : World) (hp : w.cell? pl = some x) (hz : w.frozen? pl = false) :
    Calls Tryz.prog 371 #[.pointer (some pl)] w fun e w' => e = .returned (.tuple #[]) ∧ ∃ (g c : Nat) (cur : Array Value) (fr : Nat × Nat) (w2 : World), (n ≤ c ∧ c * es ≤ cur.size ∧ c ≤ 9223372036854775807 ∧ cells.length ≤ cur.size ∧ fr.1 = fr.2) ∧
      Below w.heap.size w w2 ∧ w.heap.size ≤ g ∧ w2.heap[g]? = some (.cells cur elem fr) ∧ (∀ (j : Nat) (v : AM.LV), cells[j]? = some v → cur[j]? = some v.val) ∧ w' = w2.setCell pl (.slice (some ⟨g, 0, none⟩) n c) := by
  have hlt : pl.block < w.heap.size := World.block_lt_of_cell? w pl hp
  go_enter Tryz.func371, Tryz.ntmps371
  go_wp2_with (go_at_call 372; refine (hT _).mono ?_; rintro e w' ⟨g, c, cur, fr, rfl, h1, hb, hg, hw, hc⟩; have hp' : w'.cell? pl = some x := (World.cell?_of_block (hb.block _ hlt)).trans hp; have hz' : w'.frozen? pl = false := (by rw [← hz]; simp only [World.frozen?, hb.block _ hlt]))
  go_end0
  exact ⟨rfl, g, c, cur, fr, w', h1, hb, hg, hw, hc, rfl⟩
theorem heap_setCell' (w : World) (p : Addr) (u : Value) (k : Nat) (h : k ≠ p.block) : (w.setCell p u).heap[k]? = w.heap[k]? := by
  simp only [World.setCell, Array.getElem?_modify]
  rw [if_neg (Ne.symm h)]
theorem do_all {elem es n : Nat} {cells : List AM.LV} (hT : AM.RowC Tryz.prog 372 elem es n cells) (b pb B : Nat) (hne : b ≠ pb) (hB : B ≤ b) (hB2 : B ≤ pb) (x : Value) (w : World) (hbw : b < w.heap.size)
    (hp : w.cell? ⟨pb, 0, none⟩ = some x) (hz : w.frozen? ⟨pb, 0, none⟩ = false) (h0 : w.cell? ⟨b, 0, none⟩ = some (.int .u32 0)) (h1 : w.cell? ⟨b, 1, none⟩ = some (.int .i32 0))
    (f0 : w.frozen? ⟨b, 0, none⟩ = false) (f1 : w.frozen? ⟨b, 1, none⟩ = false) :
    Calls Tryz.prog 370 #[.pointer (some ⟨b, 0, none⟩), .func (.func 371) #[] #[.pointer (some ⟨pb, 0, none⟩)]] w fun e w' => e = .returned (.tuple #[]) ∧ ∃ (g c : Nat) (cur : Array Value) (fr : Nat × Nat), (n ≤ c ∧ c * es ≤ cur.size ∧ c ≤ 9223372036854775807 ∧ cells.length ≤ cur.size ∧ fr.1 = fr.2) ∧
      Below B w w' ∧ w.heap.size ≤ g ∧ w'.heap[g]? = some (.cells cur elem fr) ∧ (∀ (j : Nat) (v : AM.LV), cells[j]? = some v → cur[j]? = some v.val) ∧ w'.cell? ⟨pb, 0, none⟩ = some (.slice (some ⟨g, 0, none⟩) n c) := by
  have hpw : pb < w.heap.size := World.block_lt_of_cell? w ⟨pb, 0, none⟩ hp
  have hS : (w.setCell ⟨b, 1, none⟩ (.int .i32 1)).heap.size = w.heap.size := by simp [World.setCell]
  have hclo := clo_ok hT ⟨pb, 0, none⟩ x (w.setCell ⟨b, 1, none⟩ (.int .i32 1)) ((World.cell?_setCell_other _ _ _ _ (by simp [hne])).trans hp) (by simp [hz])
  refine (do_first b ⟨pb, 0, none⟩ w _ hclo ?_ h0 h1 f0 f1).mono ?_
  · rintro w' ⟨g, c, cur, fr, w2, k1, k2, k3, k4, k5, rfl⟩
    rw [hS] at k2
    have c0 : w2.cell? ⟨b, 0, none⟩ = some (.int .u32 0) := (k2.cell (p := ⟨b, 0, none⟩) hbw).trans ((World.cell?_setCell_other _ _ _ _ (by simp)).trans h0)
    have c1 : w2.cell? ⟨b, 1, none⟩ = some (.int .i32 1) := (k2.cell (p := ⟨b, 1, none⟩) hbw).trans (World.cell?_setCell_same w _ _ h1)
    have z0 : w2.frozen? ⟨b, 0, none⟩ = false := (k2.frozen (p := ⟨b, 0, none⟩) hbw).trans (by simp [f0])
    have z1 : w2.frozen? ⟨b, 1, none⟩ = false := (k2.frozen (p := ⟨b, 1, none⟩) hbw).trans (by simp [f1])
    exact ⟨(World.cell?_setCell_other _ _ _ _ (by simp [Ne.symm hne])).trans c0, (World.cell?_setCell_other _ _ _ _ (by simp [Ne.symm hne])).trans c1, by simp [z0], by simp [z1]⟩
  · rintro e w' ⟨rfl, w3, ⟨g, c, cur, fr, w2, k1, k2, k3, k4, k5, rfl⟩, rfl⟩
    rw [hS] at k2 k3
    have hp2 : w2.cell? ⟨pb, 0, none⟩ = some x := (k2.cell (p := ⟨pb, 0, none⟩) hpw).trans ((World.cell?_setCell_other _ _ _ _ (by simp [hne])).trans hp)
    refine ⟨rfl, g, c, cur, fr, k1, ?_, k3, ?_, k5, ?_⟩
    · have q1 : Below B w (w.setCell ⟨b, 1, none⟩ (.int .i32 1)) := (Below.refl B w).setCell (p := ⟨b, 1, none⟩) hB _
      exact ((((q1.trans (k2.mono (by omega))).setCell (p := ⟨pb, 0, none⟩) hB2 _).drew).setCell (p := ⟨b, 0, none⟩) hB _).setCell (p := ⟨b, 1, none⟩) hB _
    · rw [heap_setCell' _ _ _ _ (by simp; omega), heap_setCell' _ _ _ _ (by simp; omega)]
      show (w2.setCell _ _).heap[g]? = _
      rw [heap_setCell' _ _ _ _ (by simp; omega)]
      exact k4
    · rw [World.cell?_setCell_other _ _ _ _ (by simp [hne]), World.cell?_setCell_other _ _ _ _ (by simp [hne]), World.cell?_drew]
      exact World.cell?_setCell_same _ _ _ hp2
set_option maxRecDepth 100000 in
set_option maxHeartbeats 1600000 in
theorem all_ok {elem es n : Nat} {cells : List AM.LV} (hT : AM.RowC Tryz.prog 372 elem es n cells) : AM.RowC Tryz.prog 324 elem es n cells := by
  intro w
  have hmf : ∀ (fn : Fn) (first cap : Array Value) (w : World), (Instr.makeFunc fn first cap).run Tryz.prog w = .ok (.func fn first cap) w := fun _ _ _ _ => rfl
  go_enter Tryz.func324, Tryz.ntmps324
  go_wp2_with (go_at_call 370; refine (do_all hT w.heap.size (w.heap.size + 1) w.heap.size (by omega) (by omega) (by omega) (.slice none 0 0) _ (by simp; try omega) (by go_simp) (by go_simp) (by go_simp) (by go_simp) (by go_simp) (by go_simp)).mono ?_; rintro e w' ⟨rfl, g, c, cur, fr, k1, k2, k3, k4, k5, k6⟩)
  go_ret
  have hs : w.heap.size ≤ g := by simp at k3; omega
  have hb : Below w.heap.size w w' := (((Below.refl _ w).alloc (Nat.le_refl _) _).alloc (by simp) _).trans k2
  exact ⟨g, c, cur, fr, rfl, k1, hb, hs, k4, k5⟩
end Go.Proofs.YtcccapeaeehjiaaGreatDoor.Once
