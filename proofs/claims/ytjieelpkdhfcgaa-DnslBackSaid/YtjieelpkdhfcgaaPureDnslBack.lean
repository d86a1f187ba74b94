/- Rows are printed, and read as they were but for their places; empty lines and comments turn nothing. -/
import Derived.Test.YtjieelpkdhfcgaaEx5
import Derived.Test.YtjieelpkdhfcgaaEx6
import Derived.Test.YtjieelpkdhfcgaaEx7
import Derived.Test.YtjieelpkdhfcgaaDnslQ
namespace Go.Proofs.Ytjieelpkdhfcgaa.Pure
open Go Go.RowKit Go.Proofs.Ytjieelpkdhfcgaa.E Go.Proofs.YtjieelpkdhfcgaaW.PrintWords Go.Proofs.YtjieelpkdhfcgaaW.PrintMore Go.Proofs.YtjieelpkdhfcgaaW.PrintLast Go.Proofs.Ytjieelpkdhfcgaa.PL Go.Proofs.Ytjieelpkdhfcgaa.DnslS Go.Proofs.Ytjieelpkdhfcgaa.DnslR Go.Proofs.Ytjieelpkdhfcgaa.DnslQ
set_option linter.unusedSimpArgs false
set_option linter.unusedVariables false
theorem awE : Ev (fun k => glebelaw10_awake.f k) true := Ev.of (fun k => glebelaw10_awake.mono k) (k := 100) (by kernel_rfl)
theorem finE : Ev (fun k => (glebelaw10_awake.f k).bind fun t => some t) true := Ev.bind (g := fun k => glebelaw10_awake.f k) awE (Ev.now _)
theorem text_run (l0 : List Int) (all : List ByteArray) (hall : all.length = 31) (hp : ∀ x ∈ all, x.size ≤ 50) : ∀ (d i : Nat) (acc : List Int), i + d = 60 → acc.length ≤ 50 * i → (∀ x ∈ acc, 0 ≤ x ∧ x < 256) →
    ∃ T : List Int, Ev (fun k => glebelaw10_Text.l0 k l0 all acc (i : Int)) T ∧ T.length ≤ 3000 ∧ ∀ x ∈ T, 0 ≤ x ∧ x < 256 := by
  have hstop : ∀ (i : Nat) (acc : List Int), ¬ (i < l0.length ∧ i < 60) → acc.length ≤ 3000 → (∀ x ∈ acc, 0 ≤ x ∧ x < 256) → ∃ T : List Int, Ev (fun k => glebelaw10_Text.l0 k l0 all acc (i : Int)) T ∧ T.length ≤ 3000 ∧ ∀ x ∈ T, 0 ≤ x ∧ x < 256 := by
    intro i acc h ha hB
    refine ⟨acc, Ev.step (f := fun _ => some acc) (fun k => ?_) (Ev.now _), ha, hB⟩
    simp only [glebelaw10_Text.l0]
    by_cases h1 : i < l0.length
    · rw [if_pos (by omega), if_neg (by omega)]
    · rw [if_neg (by omega)]
  intro d
  induction d with
  | zero => intro i acc hi ha hB; exact hstop i acc (by omega) (by omega) hB
  | succ d ih =>
    intro i acc hi ha hB
    by_cases h1 : i < l0.length
    · have hm : Int.tmod (Go.bits .and .i64 (rd l0 (i : Int)) 65535) (all.length : Int) = (((rd l0 (i : Int) % 65536 % 31).toNat : Nat) : Int) := by
        rw [and65535, tmod_nn (by omega), hall]
        omega
      have hm30 : (rd l0 (i : Int) % 65536 % 31).toNat < 31 := by omega
      generalize (rd l0 (i : Int) % 65536 % 31).toNat = m at hm hm30
      have hmem : rdOf ByteArray.empty all (m : Int) ∈ all := by
        show all.getD m ByteArray.empty ∈ all
        rw [List.getD_eq_getElem?_getD, List.getElem?_eq_getElem (by omega)]
        exact List.getElem_mem _
      have hsz := hp _ hmem
      have hsl := len_bytes (rdOf ByteArray.empty all (m : Int))
      obtain ⟨T, t1, t2, t3⟩ := ih (i + 1) (acc ++ bytesOf (rdOf ByteArray.empty all (m : Int))) (by omega) (by rw [List.length_append]; omega) (by
        intro x hx
        rcases List.mem_append.1 hx with hx | hx
        · exact hB x hx
        · exact PB.bytesOf_byte _ x hx)
      refine ⟨T, Ev.step (fun k => ?_) t1, t2, t3⟩
      simp only [glebelaw10_Text.l0, hm]
      rw [if_pos (by omega), if_pos (by omega), if_pos (by omega), if_neg (by omega), if_pos (by omega), if_pos (by omega), if_pos (by omega), wrap_nat (by omega)]
    · exact hstop i acc (by omega) (by omega) hB
theorem text_any (l0 : List Int) : ∃ T : List Int, Ev (fun k => glebelaw10_Text.f k l0) T ∧ T.length ≤ 3000 ∧ ∀ x ∈ T, 0 ≤ x ∧ x < 256 := by
  have key : ∀ all : List ByteArray, all.length = 31 → (∀ x ∈ all, x.size ≤ 50) → ∃ T : List Int, Ev (fun k => glebelaw10_Text.l0 k l0 all [] 0) T ∧ T.length ≤ 3000 ∧ ∀ x ∈ T, 0 ≤ x ∧ x < 256 := fun all h1 h2 => text_run l0 all h1 h2 60 0 [] rfl (Nat.zero_le _) (fun x hx => by cases hx)
  unfold glebelaw10_Text.f
  refine key _ ?_ ?_
  · rfl
  · decide +kernel
/-! ### what comes back, row by row -/
theorem l3_run (x y : List S34) (n m : Int) (i : Nat) (hi : i < 1000000) (hy : i < y.length) (hx : i < x.length) (he : (rd_T34 y (i : Int)).f1.map (·.f1) = (rd_T34 x (i : Int)).f1.map (·.f1)) (hb : (rd_T34 y (i : Int)).f1.length < 1000000)
    (K : Ev (fun k => glebelaw10_DnslBack.l2 k x y n ((i + 1 : Nat) : Int)) true) : ∀ (d j : Nat), j + d = (rd_T34 y (i : Int)).f1.length → Ev (fun k => glebelaw10_DnslBack.l3 k x y (i : Int) n (i : Int) ((rd_T34 y (i : Int)).f1.length : Int) (j : Int)) true := by
  have hlen : (rd_T34 y (i : Int)).f1.length = (rd_T34 x (i : Int)).f1.length := by have := congrArg List.length he; simpa using this
  intro d
  induction d with
  | zero =>
    intro j hj
    refine Ev.step (fun k => ?_) K
    simp only [glebelaw10_DnslBack.l3]
    rw [if_neg (by omega), wrap_nat (by omega)]
  | succ d ih =>
    intro j hj
    have e1 : (rd_T36 (rd_T34 y (i : Int)).f1 (j : Int)).f1 = (rd_T36 (rd_T34 x (i : Int)).f1 (j : Int)).f1 := by
      have h1 : ((rd_T34 y (i : Int)).f1.map (·.f1))[j]? = ((rd_T34 x (i : Int)).f1.map (·.f1))[j]? := by rw [he]
      rw [List.getElem?_map, List.getElem?_map, List.getElem?_eq_getElem (by omega), List.getElem?_eq_getElem (by omega)] at h1
      injection h1 with h1
      show ((rd_T34 y (i : Int)).f1.getD j _).f1 = ((rd_T34 x (i : Int)).f1.getD j _).f1
      rw [List.getD_eq_getElem?_getD, List.getD_eq_getElem?_getD, List.getElem?_eq_getElem (by omega), List.getElem?_eq_getElem (by omega)]
      exact h1
    refine Ev.step (fun k => ?_) (ih (j + 1) (by omega))
    simp only [glebelaw10_DnslBack.l3]
    rw [if_pos (by omega), if_pos (by omega), if_pos (by omega), if_pos (by omega), if_pos (by omega), if_pos (by omega), if_pos (by omega), if_pos (by rw [e1]), wrap_nat (by omega)]
theorem l2_run (x y : List S34) (hxy : y.map rwB = x.map rwB) (hl : y.length < 1000000) (hb : ∀ r ∈ y, r.f1.length < 1000000) : ∀ (d i : Nat), i + d = y.length → Ev (fun k => glebelaw10_DnslBack.l2 k x y (y.length : Int) (i : Int)) true := by
  have hlen : y.length = x.length := by have := congrArg List.length hxy; simpa using this
  intro d
  induction d with
  | zero =>
    intro i hi
    refine Ev.step (fun k => ?_) finE
    simp only [glebelaw10_DnslBack.l2]
    rw [if_neg (by omega)]
  | succ d ih =>
    intro i hi
    have hr : rwB (rd_T34 y (i : Int)) = rwB (rd_T34 x (i : Int)) := by
      have h1 : (y.map rwB)[i]? = (x.map rwB)[i]? := by rw [hxy]
      rw [List.getElem?_map, List.getElem?_map, List.getElem?_eq_getElem (by omega), List.getElem?_eq_getElem (by omega)] at h1
      injection h1 with h1
      show rwB (y.getD i _) = rwB (x.getD i _)
      rw [List.getD_eq_getElem?_getD, List.getD_eq_getElem?_getD, List.getElem?_eq_getElem (by omega), List.getElem?_eq_getElem (by omega)]
      exact h1
    have hm : rd_T34 y (i : Int) ∈ y := by
      show y.getD i _ ∈ y
      rw [List.getD_eq_getElem?_getD, List.getElem?_eq_getElem (by omega)]
      exact List.getElem_mem _
    have hbb := hb _ hm
    injection hr with hr1 hr2
    have hll : (rd_T34 y (i : Int)).f1.length = (rd_T34 x (i : Int)).f1.length := by have := congrArg List.length hr2; simpa using this
    have h3 := l3_run x y (y.length : Int) (y.length : Int) i (by omega) (by omega) (by omega) hr2 hbb (ih (i + 1) (by omega)) (rd_T34 y (i : Int)).f1.length 0 (by omega)
    refine Ev.step (f := fun k => glebelaw10_DnslBack.j7 k x y (i : Int) (y.length : Int) (i : Int) false) (fun k => ?_) (Ev.step (fun k => ?_) h3)
    · simp only [glebelaw10_DnslBack.l2]
      rw [if_pos (by omega), if_pos (by omega), if_pos (by omega), if_pos (by omega), if_pos (by rw [hr1]), hll]
      simp
    · simp only [glebelaw10_DnslBack.j7]
      rw [if_neg (by simp), if_pos (by omega), if_pos (by omega)]
      rfl
abbrev KP := List Int × List (List Int)
theorem len_rows (kps : List KP) (x : List S34) (hx : x.map rwB = kps.map kpB) (hs : sumL (kps.map rowB) ≤ 20000) : x.length = kps.length ∧ kps.length ≤ 20000 ∧ ∀ r ∈ x, r.f1.length < 1000000 := by
  have hlen : x.length = kps.length := by have := congrArg List.length hx; simpa using this
  have hcount : ∀ l : List (List Int), l.length ≤ sumL l := by
    intro l
    induction l with
    | nil => exact Nat.le_refl _
    | cons x l ih =>
      show l.length + 1 ≤ x.length + 1 + sumL l
      omega
  have hc := hcount (kps.map rowB)
  rw [List.length_map] at hc
  refine ⟨hlen, by omega, fun r hr => ?_⟩
  have hm : rwB r ∈ kps.map kpB := by rw [← hx]; exact List.mem_map_of_mem hr
  obtain ⟨kp, hkp, hk⟩ := List.mem_map.1 hm
  injection hk with hk1 hk2
  have hl : r.f1.length = kp.2.length := by have := congrArg List.length hk2; simpa using this.symm
  have hrow : ∀ l : List KP, ∀ kp ∈ l, (rowB kp).length + 1 ≤ sumL (l.map rowB) := by
    intro l
    induction l with
    | nil => intro kp h; cases h
    | cons a l ih =>
      intro kp h
      show _ ≤ (rowB a).length + 1 + sumL (l.map rowB)
      rcases List.mem_cons.1 h with rfl | h
      · omega
      · have := ih kp h; omega
  have hparts : ∀ ps : List (List Int), ps.length ≤ (joinC ps).length + 1 := by
    intro ps
    induction ps with
    | nil => simp
    | cons p ps ih =>
      cases ps with
      | nil => simp
      | cons q qs =>
        show _ ≤ (p ++ 44 :: joinC (q :: qs)).length + 1
        rw [List.length_append, List.length_cons]
        simp only [List.length_cons] at ih ⊢
        omega
  have h1 := hrow kps kp hkp
  have h2 := hparts kp.2
  have h3 : (rowB kp).length = kp.1.length + 1 + (joinC kp.2).length := by unfold rowB; rw [List.length_append, List.length_cons]; omega
  omega
theorem j4_run (x : List S34) (kps : List KP) (hx : x.map rwB = kps.map kpB) (hs : sumL (kps.map rowB) ≤ 20000) (l : List (List Int)) (hk : parseK l = some kps) (hl : ∀ L ∈ l, NoNl L ∧ ∀ x ∈ L, 0 ≤ x ∧ x < 256) (hsl : sumL l < 100000) :
    Ev (fun k => glebelaw10_DnslBack.j4 k x (textL l)) true := by
  obtain ⟨y, y1, y2⟩ := Parse_text l kps hk hl hsl
  obtain ⟨a1, a2, a3⟩ := len_rows kps x hx hs
  obtain ⟨b1, b2, b3⟩ := len_rows kps y y1 hs
  have h2 := l2_run x y (y1.trans hx.symm) (by omega) b3 y.length 0 (by omega)
  refine Ev.step (f := fun k => (dnsl_Parse.f k (textL l)).bind fun bt284 => (if bt284.2.1 = 0 then (glebelaw10_DnslBack.j5 k x bt284.1 ((bt284.1.length : Int) != (x.length : Int))) else (glebelaw10_DnslBack.j5 k x bt284.1 true))) (fun k => rfl) (Ev.bind (g := fun k => dnsl_Parse.f k (textL l)) y2 (Ev.congr (f := fun k => glebelaw10_DnslBack.j5 k x y false) (fun k => ?_) (Ev.step (fun k => ?_) h2)))
  · show (if (0 : Int) = 0 then _ else _) = _
    rw [if_pos rfl, show ((y.length : Int) != (x.length : Int)) = false by simp; omega]
  · simp only [glebelaw10_DnslBack.j5]
    rw [if_neg (by simp)]
    rfl
theorem sum_app (a b : List (List Int)) : sumL (a ++ b) = sumL a + sumL b := by simp [sumL]
theorem j3_run (x2 : Int) (x : List S34) (kps : List KP) (hx : x.map rwB = kps.map kpB) (hok : ∀ kp ∈ kps, OkR kp) (hs : sumL (kps.map rowB) ≤ 20000) : Ev (fun k => glebelaw10_DnslBack.j3 k x2 x) true := by
  obtain ⟨a1, a2, a3⟩ := len_rows kps x hx hs
  have hP := Print_run x kps hx hok (by omega)
  have hnl : ∀ q : List KP, (∀ kp ∈ q, OkR kp) → ∀ L ∈ q.map rowB, NoNl L ∧ ∀ x ∈ L, 0 ≤ x ∧ x < 256 := by
    intro q hq L hL
    obtain ⟨kp, hkp, rfl⟩ := List.mem_map.1 hL
    exact ⟨rowB_nonl kp (hq kp hkp), fun y hy => by have := rowB_mem kp (hq kp hkp) y hy; omega⟩
  by_cases h0 : x.length = 0
  · have hk0 : kps = [] := List.length_eq_zero_iff.1 (by omega)
    have h4 := j4_run x kps hx hs (kps.map rowB) (by have := parseK_rows kps [] hok; rw [List.append_nil] at this; rw [this]; simp [parseK]) (hnl kps hok) (by omega)
    refine Ev.step (f := ?qf) ?qh ?qk
    case qh => intro k; simp only [glebelaw10_DnslBack.j3]; exact rfl
    refine Ev.bind (g := fun k => dnsl_Print.f k x) hP (Ev.congr (fun k => ?_) h4)
    rw [if_neg (by omega)]
  · have hpos : 0 < x.length := by omega
    have hm : Int.tmod (Go.bits .and .i64 x2 255) (x.length : Int) = (((x2 % 256 % (x.length : Int)).toNat : Nat) : Int) := by
      rw [and255, tmod_nn (by omega)]
      have := Int.emod_nonneg (x2 % 256) (show (x.length : Int) ≠ 0 by omega)
      omega
    have hml : (x2 % 256 % (x.length : Int)).toNat < x.length := by
      have h1 := Int.emod_nonneg (x2 % 256) (show (x.length : Int) ≠ 0 by omega)
      have h2 := Int.emod_lt_of_pos (x2 % 256) (show (0 : Int) < (x.length : Int) by omega)
      omega
    generalize (x2 % 256 % (x.length : Int)).toNat = m at hm hml
    have hsum : sumL ((kps.take m).map rowB) + sumL ((kps.drop m).map rowB) = sumL (kps.map rowB) := by
      rw [← sum_app, ← List.map_append, List.take_append_drop]
    have hP1 := Print_run (x.take m) (kps.take m) (by rw [List.map_take, List.map_take, hx]) (fun kp h => hok kp (List.mem_of_mem_take h)) (by omega)
    have hP2 := Print_run (x.drop m) (kps.drop m) (by rw [List.map_drop, List.map_drop, hx]) (fun kp h => hok kp (List.mem_of_mem_drop h)) (by omega)
    have l1 := textL_len ((kps.take m).map rowB)
    have l2 := textL_len ((kps.drop m).map rowB)
    have hk : parseK ((kps.take m).map rowB ++ ([[], [35, 32, 97, 61, 98], []] ++ (kps.drop m).map rowB)) = some kps := by
      rw [parseK_rows _ _ (fun kp h => hok kp (List.mem_of_mem_take h))]
      have e : parseK ([[], [35, 32, 97, 61, 98], []] ++ (kps.drop m).map rowB) = parseK ((kps.drop m).map rowB) := rfl
      have e2 := parseK_rows (kps.drop m) [] (fun kp h => hok kp (List.mem_of_mem_drop h))
      rw [List.append_nil] at e2
      rw [e, e2]
      show some (kps.take m ++ (kps.drop m ++ [])) = some kps
      rw [List.append_nil, List.take_append_drop]
    have h4 := j4_run x kps hx hs _ hk (by
      intro L hL
      rcases List.mem_append.1 hL with hL | hL
      · exact hnl _ (fun kp h => hok kp (List.mem_of_mem_take h)) L hL
      · rcases List.mem_append.1 hL with hL | hL
        · have : NoNl L ∧ ∀ x ∈ L, 0 ≤ x ∧ x < 256 := by
            unfold NoNl
            simp only [List.mem_cons, List.not_mem_nil, or_false] at hL
            rcases hL with rfl | rfl | rfl <;> decide
          exact this
        · exact hnl _ (fun kp h => hok kp (List.mem_of_mem_drop h)) L hL) (by
      rw [sum_app, sum_app]
      have : sumL [[], [35, 32, 97, 61, 98], []] = 8 := rfl
      omega)
    rw [textL_app, textL_app] at h4
    refine Ev.step (f := ?qf2) ?qh2 ?qk2
    case qh2 => intro k; simp only [glebelaw10_DnslBack.j3]; exact rfl
    refine Ev.bind (g := fun k => dnsl_Print.f k x) hP ?_
    refine Ev.congr (f := fun k => (dnsl_Print.f k (x.take m)).bind fun t265 => (if ([] : List Int).length + t265.length < 140737488355328 then ((some (([] : List Int) ++ t265 : List Int)).bind fun y268 => (if y268.length + 8 < 140737488355328 then ((some (y268 ++ bytesOf (⟨#[10, 35, 32, 97, 61, 98, 10, 10]⟩ : ByteArray) : List Int)).bind fun y271 => ((dnsl_Print.f k (x.drop m)).bind fun t278 => (if y271.length + t278.length < 140737488355328 then (glebelaw10_DnslBack.j4 k x (y271 ++ t278)) else (none)))) else (none))) else (none))) (fun k => ?_) ?_
    · rw [if_pos (by omega), if_neg (by omega), Option.bind_some, hm, if_pos (by omega), if_pos (by omega), Int.toNat_natCast]
    · refine Ev.bind (g := fun k => dnsl_Print.f k (x.take m)) hP1 ?_
      have ec : bytesOf (⟨#[10, 35, 32, 97, 61, 98, 10, 10]⟩ : ByteArray) = textL [[], [35, 32, 97, 61, 98], []] := rfl
      have el : (textL [[], [35, 32, 97, 61, 98], []]).length = 8 := rfl
      refine Ev.congr (f := fun k => (dnsl_Print.f k (x.drop m)).bind fun t278 => (if (textL ((kps.take m).map rowB) ++ textL [[], [35, 32, 97, 61, 98], []]).length + t278.length < 140737488355328 then (glebelaw10_DnslBack.j4 k x ((textL ((kps.take m).map rowB) ++ textL [[], [35, 32, 97, 61, 98], []]) ++ t278)) else (none))) (fun k => ?_) ?_
      · rw [if_pos (by simp only [List.length_nil]; omega), Option.bind_some, List.nil_append, if_pos (by omega), Option.bind_some, ec]
      · refine Ev.bind (g := fun k => dnsl_Print.f k (x.drop m)) hP2 (Ev.congr (fun k => ?_) h4)
        rw [if_pos (by rw [List.length_append, el]; omega), List.append_assoc]
/-! ### the parts of a row of signs -/
def tbl : ByteArray := ⟨#[97, 98, 32, 48, 49, 35, 61, 45, 46, 58]⟩
def chB (c : Int) : Int := Int.tmod (Go.bits .and .u8 c 255) 10
theorem chB_ok (c : Int) (h0 : 0 ≤ c) (h1 : c < 256) : 0 ≤ chB c ∧ chB c < 10 ∧ isP (bt tbl (chB c)) = true := by
  have h := byteB (p := fun c => decide (0 ≤ chB c) && (decide (chB c < 10) && isP (bt tbl (chB c)))) (by kernel_rfl) c h0 h1
  simp only [Bool.and_eq_true, decide_eq_true_eq] at h
  exact ⟨h.1, h.2.1, h.2.2⟩
theorem l1_run (x1 : List (List Int)) (hx1 : ∀ x ∈ x1, ∀ c ∈ x, 0 ≤ c ∧ c < 256) (x2 : Int) (x : List S34) (i : Nat) (hi : i < x1.length) (ts : List S36) (ht : ts.length ≤ 10)
    (K : ∀ q : List Int, (∀ c ∈ q, isP c = true) → q.length ≤ 200 → Ev (fun k => glebelaw10_DnslBack.l0 k x1 x2 x (wrap64 ((i : Int) + 1)) (⟨#[107, 101, 121]⟩ : ByteArray) (ts ++ [(⟨6, strOfNums q, 0⟩ : S36)]) 0) true) :
    ∀ (d j : Nat) (q : List Int), j + d = 200 → q.length = j → (∀ c ∈ q, isP c = true) → Ev (fun k => glebelaw10_DnslBack.l1 k x1 x2 x (i : Int) (strOfNums q) (j : Int) (⟨#[107, 101, 121]⟩ : ByteArray) ts 0) true := by
  have hm : rd_L6 x1 (i : Int) ∈ x1 := by
    show x1.getD i [] ∈ x1
    rw [List.getD_eq_getElem?_getD, List.getElem?_eq_getElem hi]
    exact List.getElem_mem _
  have hB := hx1 _ hm
  intro d
  induction d with
  | zero =>
    intro j q hj hq hp
    refine Ev.step (fun k => ?_) (K q hp (by omega))
    simp only [glebelaw10_DnslBack.l1]
    rw [if_pos (by omega), if_pos (by omega)]
    by_cases h : (j : Int) < ((rd_L6 x1 (i : Int)).length : Int)
    · rw [if_pos h, if_neg (by omega), if_pos (by omega)]
    · rw [if_neg h, if_pos (by omega)]
  | succ d ih =>
    intro j q hj hq hp
    by_cases h : (j : Int) < ((rd_L6 x1 (i : Int)).length : Int)
    · have hb := hB _ (rd_mem (rd_L6 x1 (i : Int)) j (by omega))
      obtain ⟨c1, c2, c3⟩ := chB_ok _ hb.1 hb.2
      have hs := size_strOf q
      have hs1 := size_strOf [bt tbl (chB (rd (rd_L6 x1 (i : Int)) (j : Int)))]
      have ih' := ih (j + 1) (q ++ [bt tbl (chB (rd (rd_L6 x1 (i : Int)) (j : Int)))]) (by omega) (by rw [List.length_append, List.length_singleton]; omega) (by
        intro c hc
        rcases List.mem_append.1 hc with hc | hc
        · exact hp c hc
        · rw [List.mem_singleton.1 hc]; exact c3)
      rw [PB.strOf_app] at ih'
      refine Ev.step (fun k => ?_) ih'
      simp only [glebelaw10_DnslBack.l1]
      rw [if_pos (by omega), if_pos (by omega), if_pos h, if_pos (by omega), if_pos (by omega), if_pos (show 0 ≤ Int.tmod _ _ from c1), if_pos (show Int.tmod _ _ < 10 from c2), Option.bind_some, if_pos (by show (strOfNums q).size + (strOfNums [bt tbl (chB (rd (rd_L6 x1 (i : Int)) (j : Int)))]).size ≤ _; simp only [List.length_singleton] at hs1; omega), wrap_nat (by omega)]
      rfl
    · refine Ev.step (fun k => ?_) (K q hp (by omega))
      simp only [glebelaw10_DnslBack.l1]
      rw [if_pos (by omega), if_pos (by omega), if_neg h, if_pos (by omega)]
theorem join_len : ∀ qs : List (List Int), (∀ q ∈ qs, q.length ≤ 200) → (joinC qs).length ≤ 201 * qs.length := by
  intro qs
  induction qs with
  | nil => intro _; exact Nat.zero_le _
  | cons q qs ih =>
    intro h
    have h1 := h q List.mem_cons_self
    have h2 := ih (fun q hq => h q (List.mem_cons_of_mem _ hq))
    cases qs with
    | nil => show q.length ≤ 201 * 1; omega
    | cons p ps =>
      show (q ++ 44 :: joinC (p :: ps)).length ≤ _
      rw [List.length_append, List.length_cons]
      simp only [List.length_cons] at h2 ⊢
      omega
theorem l0_run (x1 : List (List Int)) (hx1 : ∀ x ∈ x1, ∀ c ∈ x, 0 ≤ c ∧ c < 256) (x2 : Int) (x : List S34) (kps : List KP) (hx : x.map rwB = kps.map kpB) (hok : ∀ kp ∈ kps, OkR kp) (hs : sumL (kps.map rowB) ≤ 3001) :
    ∀ (d i : Nat) (ts : List S36) (qs : List (List Int)), i + d = 10 → ts.length = i → ts.map (·.f1) = qs.map strOfNums → (∀ q ∈ qs, okP q = true ∧ q.length ≤ 200) → Ev (fun k => glebelaw10_DnslBack.l0 k x1 x2 x (i : Int) (⟨#[107, 101, 121]⟩ : ByteArray) ts 0) true := by
  obtain ⟨a1, a2, a3⟩ := len_rows kps x hx (by omega)
  have hend : ∀ (i : Nat) (ts : List S36) (qs : List (List Int)), i ≤ 10 → ts.length = i → ts.map (·.f1) = qs.map strOfNums → (∀ q ∈ qs, okP q = true ∧ q.length ≤ 200) → Ev (fun k => glebelaw10_DnslBack.j1 k x1 x2 x (i : Int) false (⟨#[107, 101, 121]⟩ : ByteArray) ts 0) true := by
    intro i ts qs hi ht hq hp
    have hql : qs.length = i := by have := congrArg List.length hq; simp at this; omega
    by_cases h0 : (ts.length : Int) > 0
    · have hj := join_len qs (fun q hq => (hp q hq).2)
      have hrl : (rowB ([107, 101, 121], qs)).length = 4 + (joinC qs).length := by
        show ([107, 101, 121] ++ 61 :: joinC qs).length = _
        rw [List.length_append, List.length_cons]
        simp only [List.length_cons, List.length_nil]
        omega
      have h3 := j3_run x2 (x ++ [(⟨(⟨#[107, 101, 121]⟩ : ByteArray), ts, 0⟩ : S34)]) (kps ++ [([107, 101, 121], qs)]) (by
        rw [List.map_append, List.map_append, hx]
        congr 1
        show [rwB _] = [kpB _]
        unfold rwB kpB
        rw [hq]
        rfl) (by
        intro kp h
        rcases List.mem_append.1 h with h | h
        · exact hok kp h
        · rw [List.mem_singleton.1 h]
          refine ⟨by simp, by show ∀ x ∈ [107, 101, 121], isK x = true; decide, ?_, fun p h => (hp p h).1⟩
          intro he
          have hq0 : qs.length = 0 := congrArg List.length he
          omega) (by
        rw [List.map_append, sum_app]
        have : sumL ([([107, 101, 121], qs)].map rowB) = (rowB ([107, 101, 121], qs)).length + 1 := by simp [sumL]
        omega)
      refine Ev.step (fun k => ?_) h3
      simp only [glebelaw10_DnslBack.j1]
      rw [if_neg (by simp), if_pos h0, if_pos (by omega)]
    · refine Ev.step (fun k => ?_) (j3_run x2 x kps hx hok (by omega))
      simp only [glebelaw10_DnslBack.j1]
      rw [if_neg (by simp), if_neg h0]
  intro d
  induction d with
  | zero =>
    intro i ts qs hi ht hq hp
    refine Ev.step (fun k => ?_) (hend i ts qs (by omega) ht hq hp)
    simp only [glebelaw10_DnslBack.l0]
    rw [decide_eq_false (show ¬ (i : Int) < 10 by omega)]
    split <;> rfl
  | succ d ih =>
    intro i ts qs hi ht hq hp
    by_cases hlt : (i : Int) < (x1.length : Int)
    · have h1 := l1_run x1 hx1 x2 x i (by omega) ts (by omega) (fun q h1 h2 => by
        rw [wrap_nat (by omega)]
        refine ih (i + 1) (ts ++ [⟨6, strOfNums q, 0⟩]) (qs ++ [q]) (by omega) (by rw [List.length_append, List.length_singleton]; omega) (by rw [List.map_append, List.map_append, hq]; rfl) (fun p h => ?_)
        rcases List.mem_append.1 h with h | h
        · exact hp p h
        · rw [List.mem_singleton.1 h]
          refine ⟨?_, h2⟩
          unfold okP
          rw [Bool.and_eq_true, List.all_eq_true, decide_eq_true_eq]
          exact ⟨h1, by omega⟩) 200 0 [] rfl rfl (fun c h => by cases h)
      refine Ev.step (f := fun k => glebelaw10_DnslBack.j1 k x1 x2 x (i : Int) true (⟨#[107, 101, 121]⟩ : ByteArray) ts 0) (fun k => ?_) (Ev.step (fun k => ?_) h1)
      · simp only [glebelaw10_DnslBack.l0]
        rw [if_pos hlt, decide_eq_true (show (i : Int) < 10 by omega)]
      · simp only [glebelaw10_DnslBack.j1]
        rw [if_pos trivial]
        rfl
    · refine Ev.step (fun k => ?_) (hend i ts qs (by omega) ht hq hp)
      simp only [glebelaw10_DnslBack.l0]
      rw [if_neg hlt]
theorem DnslBack : glebelaw10_DnslBack.Pure := by
  intro l0 l1 a2 h1 h2 h3 h4 h5 h6
  apply Ev.rounds
  have hB : ∀ x ∈ l1, ∀ c ∈ x, 0 ≤ c ∧ c < 256 := fun x hx => u8_of_wf (h5 x hx).2
  obtain ⟨T, t1, t2, t3⟩ := text_any l0
  unfold glebelaw10_DnslBack.f
  refine Ev.bind (g := fun k => glebelaw10_Text.f k l0) t1 ?_
  rcases Parse_any T (by omega) t3 with ⟨kps, rows, k1, k2, k3, k4⟩ | ⟨e, p, e1, e2, e3, e4⟩
  · refine Ev.bind (g := fun k => dnsl_Parse.f k T) k4 (Ev.congr (fun k => ?_) (l0_run l1 hB a2 rows kps k3 k1 (by omega) 10 0 [] [] rfl rfl rfl (fun q h => by cases h)))
    show (if (0 : Int) = 0 then _ else _) = _
    rw [if_pos rfl]
    rfl
  · refine Ev.bind (g := fun k => dnsl_Parse.f k T) e4 ?_
    refine Ev.congr (f := fun k => (glebelaw10_Text.f k l0).bind fun t235 => (if p ≤ (t235.length : Int) then ((glebelaw10_awake.f k).bind fun t238 => (some t238)) else (none))) (fun k => ?_) (Ev.bind (g := fun k => glebelaw10_Text.f k l0) t1 (Ev.congr (fun k => ?_) finE))
    · show (if e = 0 then _ else (if ((0 : Nat) : Int) = 0 then (if p ≥ 0 then _ else _) else _)) = _
      rw [if_neg e1, if_pos (show ((0 : Nat) : Int) = 0 from rfl), if_pos (show p ≥ 0 by omega)]
    · rw [if_pos e3]
end Go.Proofs.Ytjieelpkdhfcgaa.Pure
