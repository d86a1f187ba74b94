/- Lines and their ends are the whole; a line's place is column 1; columns rise within a line. -/
import Derived.Test.YtnkcffmklomfhaaYx8
import Derived.Test.YtnkcffmklomfhaaScanS
namespace Go.Proofs.Ytnkcffmklomfhaa.Pure
open Go Go.RowKit Go.Proofs.Ytnkcffmklomfhaa.Y Go.Proofs.YtnkcffmklomfhaaW.PrintWords Go.Proofs.YtnkcffmklomfhaaW.PrintLast Go.Proofs.Ytnkcffmklomfhaa.PL Go.Proofs.Ytnkcffmklomfhaa.ScanS
set_option linter.unusedSimpArgs false
set_option linter.unusedVariables false
theorem dw_head : ∀ (l : List Int) {c : Int} {l' : List Int}, l.dropWhile notNl = c :: l' → c = 10
  | [], c, l', h => by simp at h
  | x :: l, c, l', h => by
    by_cases hx : x = 10
    · subst hx
      simp [List.dropWhile_cons, notNl] at h
      exact h.1.symm
    · have hn : notNl x = true := by simp [notNl, hx]
      rw [List.dropWhile_cons, if_pos hn] at h
      exact dw_head l h
theorem tw_mem (l : List Int) : ∀ x ∈ l.takeWhile notNl, x ≠ 10 := by
  induction l with
  | nil => simp
  | cons c l ih =>
    intro x hx
    by_cases hc : c = 10
    · subst hc
      simp [List.takeWhile_cons, notNl] at hx
    · have hn : notNl c = true := by simp [notNl, hc]
      rw [List.takeWhile_cons, if_pos hn] at hx
      rcases List.mem_cons.mp hx with h | h
      · rw [h]; exact hc
      · exact ih x h
theorem whr_run (b : List Int) (n : Nat) : ∀ m : Nat, (∀ j, j < m → rd b ((n + j : Nat) : Int) ≠ 10) → whr b (n + m) = ((whr b n).1, (whr b n).2 + m) := by
  intro m
  induction m with
  | zero => intro _; simp
  | succ m ih =>
    intro h
    have e : n + (m + 1) = n + m + 1 := rfl
    rw [e, whr_other b (n + m) (h m (by omega)), ih (fun j hj => h j (by omega))]
    simp only [Prod.mk.injEq, true_and]
    omega
theorem T33_at (toks : List S33) (i : Nat) (t : S33) (r : List S33) (h : toks.drop i = t :: r) : i < toks.length ∧ rd_T33 toks (i : Int) = t ∧ toks.drop (i + 1) = r ∧ toks.length = i + 1 + r.length := by
  have hl := congrArg List.length h
  simp at hl
  have hn : i < toks.length := by omega
  have e := List.drop_eq_getElem_cons hn
  rw [h] at e
  injection e with e1 e2
  refine ⟨hn, ?_, e2.symm, by omega⟩
  simp [rd_T33, List.getD_eq_getElem?_getD, List.getElem?_eq_getElem hn, e1]
theorem head_run (b : List Int) (hb : b.length < 1000000) (hB : ∀ x ∈ b, 0 ≤ x ∧ x < 256) (toks : List S33) (htl : toks.length < 2000000) (i n : Nat) (s : List Int) (hi : i < toks.length)
    (hrd : rd_T33 toks (i : Int) = ⟨1, strOfNums s, (n : Int)⟩) (hcut : (b.take (n + s.length)).drop n = s) (hle : n + s.length ≤ b.length)
    (hw0 : whr b n = (((i + 1 : Nat) : Int), 1)) (hw1 : whr b (n + s.length) = (((i + 1 : Nat) : Int), ((s.length + 1 : Nat) : Int)))
    (K : Ev (fun k => glebelaw7_ScanParts.j2 k b toks ((n + s.length : Nat) : Int) (toks.length : Int) (i : Int) false) true) :
    Ev (fun k => glebelaw7_ScanParts.l0 k b toks (n : Int) (toks.length : Int) (i : Int)) true := by
  have hW : ∀ m : Nat, m ≤ b.length → Ev (fun k => scan_Where.f k b (m : Int)) (whr b m) := fun m hm => by
    have := Where_run b hb hB (m : Int)
    rw [clamp_nat b m hm] at this
    exact this
  have hE : Ev (fun k => glebelaw7_ScanParts.j1 k b toks (i : Int) ((i + 1 : Nat) : Int) ((n + s.length : Nat) : Int) (toks.length : Int) (i : Int) false) true := by
    have h1 := hW (n + s.length) hle
    rw [hw1] at h1
    refine Ev.step (f := fun k => (scan_Where.f k b ((n + s.length : Nat) : Int)).bind fun bt => (if bt.1 = ((i + 1 : Nat) : Int) then (glebelaw7_ScanParts.j2 k b toks ((n + s.length : Nat) : Int) (toks.length : Int) (i : Int) (bt.2 != ((s.length + 1 : Nat) : Int))) else (glebelaw7_ScanParts.j2 k b toks ((n + s.length : Nat) : Int) (toks.length : Int) (i : Int) true))) (fun k => ?_) (Ev.bind (g := fun k => scan_Where.f k b ((n + s.length : Nat) : Int)) h1 (Ev.congr (fun k => ?_) K))
    · simp only [glebelaw7_ScanParts.j1]
      rw [if_neg (by decide)]
      refine congrArg _ (funext fun bt => ?_)
      rw [if_pos (show 0 ≤ (i : Int) by omega), if_pos (show (i : Int) < (toks.length : Int) by omega), hrd]
      dsimp only
      rw [size_strOf, wrap_n1 s.length (by omega)]
    · rw [if_pos rfl]
      simp
  have h0 := hW n (by omega)
  rw [hw0] at h0
  refine Ev.step (f := fun k => (scan_Where.f k b (n : Int)).bind fun bt => (if bt.1 = ((i + 1 : Nat) : Int) then (if bt.2 = 1 then (glebelaw7_ScanParts.j1 k b toks (i : Int) bt.1 ((n + s.length : Nat) : Int) (toks.length : Int) (i : Int) false) else (glebelaw7_ScanParts.j1 k b toks (i : Int) bt.1 ((n + s.length : Nat) : Int) (toks.length : Int) (i : Int) true)) else (glebelaw7_ScanParts.j1 k b toks (i : Int) bt.1 ((n + s.length : Nat) : Int) (toks.length : Int) (i : Int) true))) (fun k => ?_) (Ev.bind (g := fun k => scan_Where.f k b (n : Int)) h0 (Ev.congr (fun k => ?_) hE))
  · simp only [glebelaw7_ScanParts.l0]
    rw [if_pos (by omega), if_pos (by omega), if_pos (by omega), hrd]
    dsimp only
    refine congrArg _ (funext fun bt => ?_)
    rw [size_strOf, wrap_nn n s.length (by omega), if_pos rfl, wrap_n1 i (by omega), if_neg (show ¬ ((n + s.length : Nat) : Int) > (b.length : Int) by omega), if_pos (show 0 ≤ (n : Int) by omega), if_pos (show (n : Int) ≤ ((n + s.length : Nat) : Int) by omega), if_pos (show ((n + s.length : Nat) : Int) ≤ (b.length : Int) by omega), Int.toNat_natCast, Int.toNat_natCast, hcut]
    simp
  · rw [if_pos rfl, if_pos rfl]
theorem ScanParts : glebelaw7_ScanParts.Pure := by
  intro b h1 h2 h3
  apply Ev.rounds
  have hB := u8_of_wf h3
  have hfin : Ev (fun k => (glebelaw7_awake.f k).bind fun t => some t) true := Ev.bind (g := fun k => glebelaw7_awake.f k) awS (Ev.now _)
  by_cases hlen : (b.length : Int) > 500
  · refine Ev.congr (fun k => ?_) hfin
    unfold glebelaw7_ScanParts.f
    rw [if_pos hlen]
  have hb : b.length < 1000000 := by omega
  have htl := lines_len b [] 0
  have hloop : ∀ toks : List S33, toks.length < 2000000 → ∀ (d n i : Nat) (l : List Int), l.length ≤ d → b.drop n = l → n ≤ b.length → toks.drop i = linesS n [] l → i ≤ toks.length → whr b n = (((i + 1 : Nat) : Int), 1) →
      Ev (fun k => glebelaw7_ScanParts.l0 k b toks (n : Int) (toks.length : Int) (i : Int)) true := by
    intro toks ht d
    have hstop : ∀ n i : Nat, i = toks.length → b.length ≤ n → Ev (fun k => glebelaw7_ScanParts.l0 k b toks (n : Int) (toks.length : Int) (i : Int)) true := by
      intro n i hi hn
      refine Ev.step (fun k => ?_) hfin
      simp only [glebelaw7_ScanParts.l0]
      rw [if_neg (by omega), if_pos (by omega)]
    induction d with
    | zero =>
      intro n i l hd h hn hi hil hw
      obtain rfl : l = [] := List.length_eq_zero_iff.mp (by omega)
      have := dn h hn
      have hnil : toks.drop i = [] := by rw [hi]; rfl
      have := List.drop_eq_nil_iff.mp hnil
      exact hstop n i (by omega) (by omega)
    | succ d ih =>
      intro n i l hd h hn hi hil hw
      by_cases hl0 : l = []
      · exact ih n i l (by simp [hl0]) h hn hi hil hw
      have hll : l.length = b.length - n := by rw [← h]; simp
      have htw := tw_len (p := notNl) l
      have hdt := drop_tw (p := notNl) l
      have htt := take_tw (p := notNl) l
      have hmem := tw_mem l
      rw [lines_tw] at hi
      cases hdw : l.dropWhile notNl with
      | nil =>
        rw [hdw] at hi htw
        simp only [List.nil_append, if_neg hl0] at hi
        simp only [List.length_nil] at htw
        obtain ⟨q1, q2, q3, q4⟩ := T33_at toks i _ _ hi
        simp only [List.length_nil] at q4
        have htl' : l.takeWhile notNl = l := by
          have := List.takeWhile_append_dropWhile (p := notNl) (l := l)
          rw [hdw, List.append_nil] at this
          exact this
        rw [htl'] at hmem
        have hnl : ∀ j, j < l.length → rd b ((n + j : Nat) : Int) ≠ 10 := by
          intro j hj
          have : rd b ((n + j : Nat) : Int) = rd l (j : Int) := by
            rw [← h]
            simp only [rd, List.getD_eq_getElem?_getD, List.getElem?_drop, Int.toNat_natCast]
          rw [this]
          exact hmem _ (rd_mem l j hj)
        have hwe := whr_run b n l.length hnl
        rw [hw] at hwe
        refine head_run b hb hB toks ht i n l q1 q2 (by rw [drop_take_drop, h, List.take_length]) (by omega) hw (by rw [hwe]; simp; omega) ?_
        have e : n + l.length = b.length := by omega
        rw [e]
        refine Ev.step (f := fun k => glebelaw7_ScanParts.j3 k b toks (b.length : Int) (toks.length : Int) (i : Int) false) (fun k => ?_) (Ev.step (f := fun k => glebelaw7_ScanParts.l0 k b toks ((b.length + 1 : Nat) : Int) (toks.length : Int) ((i + 1 : Nat) : Int)) (fun k => ?_) (hstop (b.length + 1) (i + 1) (by omega) (by omega)))
        · simp only [glebelaw7_ScanParts.j2]
          rw [if_neg (by simp), if_neg (by omega)]
        · simp only [glebelaw7_ScanParts.j3]
          rw [if_neg (by simp), if_neg (by omega), wrap_n1 b.length (by omega), wrap_n1 i (by omega)]
      | cons c l' =>
        have hc := dw_head l hdw
        subst hc
        rw [hdw] at hi htw hdt
        simp only [List.nil_append] at hi
        simp only [List.length_cons] at htw
        generalize htg : l.takeWhile notNl = t at *
        obtain ⟨q1, q2, q3, q4⟩ := T33_at toks i _ _ hi
        have hd10 : b.drop (n + t.length) = 10 :: l' := by rw [← hdt, ← h, List.drop_drop]
        obtain ⟨z1, z2, z3, z4⟩ := dc hd10
        have hcut : (b.take (n + t.length)).drop n = t := by rw [drop_take_drop, h, htt]
        have hrt : ∀ j, j < t.length → rd b ((n + j : Nat) : Int) = rd t (j : Int) := by
          intro j hj
          rw [← hcut]
          simp only [rd, List.getD_eq_getElem?_getD, List.getElem?_drop, List.getElem?_take, Int.toNat_natCast]
          rw [if_pos (by omega)]
        have hnl : ∀ j, j < t.length → rd b ((n + j : Nat) : Int) ≠ 10 := fun j hj => by
          rw [hrt j hj]
          exact hmem _ (rd_mem t j hj)
        have hwt := whr_run b n t.length hnl
        have hwn := whr_nl b (n + t.length) z2
        rw [hwt, hw] at hwn
        have hnext := ih (n + t.length + 1) (i + 1) l' (by omega) z3 (by omega) q3 (by omega) (by rw [hwn]; simp)
        by_cases h13 : t ≠ [] ∧ rd t (t.length - 1) = 13
        · have hpos : 0 < t.length := List.length_pos_iff.mpr h13.1
          have htrim : trim t = t.take (t.length - 1) := by unfold trim; rw [if_pos h13]
          have hsl : (t.take (t.length - 1)).length = t.length - 1 := by simp
          have hcut' : (b.take (n + (t.length - 1))).drop n = t.take (t.length - 1) := by
            rw [drop_take_drop, h, ← htt, List.take_take, htt, Nat.min_eq_left (by omega)]
          have hwe := whr_run b n (t.length - 1) (fun j hj => hnl j (by omega))
          rw [hw] at hwe
          rw [htrim] at q2
          refine head_run b hb hB toks ht i n (t.take (t.length - 1)) q1 q2 (by rw [hsl]; exact hcut') (by omega) hw (by rw [hsl, hwe]; simp; omega) ?_
          rw [hsl]
          have hr13 : rd b ((n + (t.length - 1) : Nat) : Int) = 13 := by
            rw [hrt _ (by omega)]
            have : ((t.length - 1 : Nat) : Int) = (t.length : Int) - 1 := by omega
            rw [this]
            exact h13.2
          have e1 : n + (t.length - 1) + 1 = n + t.length := by omega
          have w1 : wrap64 (((n + (t.length - 1) : Nat) : Int) + 1) = ((n + t.length : Nat) : Int) := by rw [wrap_n1 _ (by omega), e1]
          refine Ev.step (f := fun k => glebelaw7_ScanParts.j3 k b toks ((n + (t.length - 1) : Nat) : Int) (toks.length : Int) (i : Int) true) (fun k => ?_) (Ev.step (f := fun k => glebelaw7_ScanParts.l0 k b toks ((n + t.length + 1 : Nat) : Int) (toks.length : Int) ((i + 1 : Nat) : Int)) (fun k => ?_) hnext)
          · simp only [glebelaw7_ScanParts.j2]
            rw [if_neg (by simp), w1]
            clear w1
            rw [if_pos (by omega), if_pos (by omega), if_pos hr13, if_pos (by omega), if_pos (by omega), z2]
            rfl
          · simp only [glebelaw7_ScanParts.j3]
            rw [if_pos trivial, w1]
            clear w1
            rw [if_pos (by omega), if_pos (by omega), if_pos z2, wrap_n1 (n + t.length) (by omega), wrap_n1 i (by omega)]
        · have htrim : trim t = t := by unfold trim; rw [if_neg h13]
          rw [htrim] at q2
          rw [hw] at hwt
          refine head_run b hb hB toks ht i n t q1 q2 hcut (by omega) hw (by rw [hwt]; simp; omega) ?_
          refine Ev.step (f := fun k => glebelaw7_ScanParts.j3 k b toks ((n + t.length : Nat) : Int) (toks.length : Int) (i : Int) false) (fun k => ?_) (Ev.step (f := fun k => glebelaw7_ScanParts.l0 k b toks ((n + t.length + 1 : Nat) : Int) (toks.length : Int) ((i + 1 : Nat) : Int)) (fun k => ?_) hnext)
          · simp only [glebelaw7_ScanParts.j2]
            rw [if_neg (by simp), if_pos (by omega), if_pos (by omega), if_neg (by rw [z2]; decide)]
          · simp only [glebelaw7_ScanParts.j3]
            rw [if_neg (by simp), if_pos (by omega), if_pos (by omega), if_pos z2, wrap_n1 (n + t.length) (by omega), wrap_n1 i (by omega)]
  refine Ev.congr (f := fun k => (scan_Lines.f k b).bind fun t => glebelaw7_ScanParts.l0 k b t ((0 : Nat) : Int) (t.length : Int) ((0 : Nat) : Int)) (fun k => ?_) (Ev.bind (g := fun k => scan_Lines.f k b) (Lines_run b hb hB) (hloop (linesS 0 [] b) (by omega) b.length 0 0 b (Nat.le_refl _) rfl (Nat.zero_le _) rfl (Nat.zero_le _) (whr_zero b)))
  unfold glebelaw7_ScanParts.f
  rw [if_neg hlen]
  rfl
end Go.Proofs.Ytnkcffmklomfhaa.Pure
