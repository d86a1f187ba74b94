/- Any texts are the second that the document says, or none; any second has its day, its clock and its day of the week; any text is the number that the document says, or none. -/
import Derived.Test.YtcgchblljhbdaaaDoorZx3
import Derived.Test.YtcgchblljhbdaaaDoorZx9
import Derived.Test.YtcgchblljhbdaaaDoorDateV
namespace Go.Proofs.YtcgchblljhbdaaaDoor.Pure
open Go Go.RowKit Go.Proofs.YtcgchblljhbdaaaDoor.Z Go.Proofs.YtcgchblljhbdaaaDoorW.PrintWords Go.Proofs.YtcgchblljhbdaaaDoorW.PrintMore Go.Proofs.YtcgchblljhbdaaaDoorW.PrintLast Go.Proofs.YtcgchblljhbdaaaDoor.PL Go.Proofs.YtcgchblljhbdaaaDoor.PB Go.Proofs.YtcgchblljhbdaaaDoor.NumS Go.Proofs.YtcgchblljhbdaaaDoor.DateS
set_option linter.unusedSimpArgs false
set_option linter.unusedVariables false
theorem awZ : Ev (fun k => glebelaw6_awake.f k) true := Ev.of (fun k => glebelaw6_awake.mono k) (k := 400) (by kernel_rfl)
theorem finZ : Ev (fun k => (glebelaw6_awake.f k).bind fun t => some t) true := Ev.bind (g := fun k => glebelaw6_awake.f k) awZ (Ev.now _)
theorem u64_of_wf {x : Int} (h : (Lit.int .u64 x).wf = true) : 0 ≤ x ∧ x < 18446744073709551616 := by
  have h8 : IntKind.u64.min = 0 ∧ IntKind.u64.max = 18446744073709551615 := by decide
  simp [Lit.wf] at h
  omega
theorem ext_le (s : ByteArray) (a b : Nat) : (s.extract a b).size ≤ s.size := by
  rw [ByteArray.size_extract]
  omega
theorem dropc {α : Type} (rdx : List α → Int → α) (z : α) (hrd : ∀ (xs : List α) (i : Nat), rdx xs (i : Int) = xs.getD i z) {ps l : List α} {n : Nat} {x : α} (h : ps.drop n = x :: l) : n < ps.length ∧ rdx ps (n : Int) = x ∧ ps.drop (n + 1) = l ∧ ps.length = n + 1 + l.length := by
  have hl := congrArg List.length h
  simp at hl
  have hn : n < ps.length := by omega
  have e := List.drop_eq_getElem_cons hn
  rw [h] at e
  injection e with e1 e2
  refine ⟨hn, ?_, e2.symm, by omega⟩
  rw [hrd]
  simp [List.getD_eq_getElem?_getD, List.getElem?_eq_getElem hn, e1]
theorem dropn {α : Type} {ps : List α} {n : Nat} (h : ps.drop n = []) (hn : n ≤ ps.length) : n = ps.length := by
  have := congrArg List.length h
  simp at this
  omega
theorem both (sec : Nat) : ∃ P : ByteArray × ByteArray × Bool, Ev (fun k => date_Print.f k (sec : Int)) P ∧ Ev (fun k => gleberef1_PrintDate.f k (sec : Int)) P ∧ (sec ≤ 253402300799 → P.1.size = 10 ∧ P.2.1.size = 8) := by
  by_cases h : sec ≤ 253402300799
  · obtain ⟨y, m, d, y0, y1, m0, m1, d0, d1, hn, b1, b2, b3, b4, hp⟩ := print sec h
    refine ⟨_, hp, rprint sec h y m d y0 y1 m0 m1 d0 d1 hn b1 b2 b4, fun _ => ⟨?_, ?_⟩⟩
    · show (strOfNums (dayT y m d)).size = 10
      rw [size_strOf]; rfl
    · show (strOfNums (clockT (sec % 86400))).size = 8
      rw [size_strOf]; rfl
  · exact ⟨_, print_far sec (by omega), rprint_far sec (by omega), fun g => absurd g h⟩
theorem l2_run (u : Nat) (hu : u < 18446744073709551616) (M : Int) (M0 : 0 ≤ M) (M1 : M < 18446744073709551616) (L : List ByteArray) (hlen : L.length < 100) (hL : ∀ x ∈ L, x.size < 1048576) :
    ∀ (l : List ByteArray) (n : Nat), L.drop n = l → n ≤ L.length → Ev (fun k => glebelaw6_DateTells.l2 k (u : Int) M (strOfNums (digs u)) L (L.length : Int) (n : Int)) true := by
  intro l
  induction l with
  | nil =>
    intro n h hn
    have := dropn h hn
    refine Ev.step (fun k => ?_) finZ
    simp only [glebelaw6_DateTells.l2]
    rw [if_neg (by omega), text_f u hu, Option.bind_some, if_pos rfl]
  | cons x l ih =>
    intro n h hn
    obtain ⟨h1, h2, h3, h4⟩ := dropc (rdOf ByteArray.empty) ByteArray.empty (fun _ _ => rfl) h
    have hx : x.size < 1048576 := hL x (List.mem_of_mem_drop (i := n) (by rw [h]; exact List.mem_cons_self ..))
    refine Ev.step (f := ?qf) ?qh ?qk
    case qh =>
      intro k
      simp only [glebelaw6_DateTells.l2]
      rw [if_pos (by omega), if_pos (by omega), if_pos (by omega), h2, wrap_nat (by omega)]
    refine Ev.bind (g := fun k => date_Num.f k x M) (num x hx M M0 M1) (Ev.bind (g := fun k => gleberef1_Num.f k x M) (rnum x hx M M0 M1) ?_)
    refine Ev.congr (fun k => ?_) (ih (n + 1) h3 (by omega))
    rw [if_pos rfl, if_neg (by simp)]
theorem l1_run (raw : List Int) (hraw : raw.length ≤ 100) (by_ : Int) (u : Nat) (hu : u < 18446744073709551616) (M : Int) (M0 : 0 ≤ M) (M1 : M < 18446744073709551616) (L : List S37) (hlen : L.length < 100) (hL : ∀ x ∈ L, x.f0.size < 1000 ∧ x.f1.size < 1000) :
    ∀ (l : List S37) (n : Nat), L.drop n = l → n ≤ L.length → Ev (fun k => glebelaw6_DateTells.l1 k raw by_ (u : Int) M L (L.length : Int) (n : Int)) true := by
  intro l
  induction l with
  | nil =>
    intro n h hn
    have := dropn h hn
    have dl := digs_le20 u hu
    have dn : 0 < (digs u).length := List.length_pos_iff.2 (digs_ne u)
    have sz := size_strOf (digs u)
    have s1 : (strOfNums [by_]).size = 1 := size_strOf [by_]
    refine Ev.step (f := ?qf) ?qh ?qk
    case qh =>
      intro k
      simp only [glebelaw6_DateTells.l1]
      rw [if_neg (by omega)]
    refine Ev.bind (g := fun k => gleberef1_Text.f k (u : Int)) (rtext u hu) ?_
    have za : ∀ (x y : ByteArray), (x ++ y).size = x.size + y.size := fun x y => ByteArray.size_append
    have z48 : (⟨#[48]⟩ : ByteArray).size = 1 := rfl
    have xe := ext_le (strOfNums (digs u)) 1 (strOfNums (digs u)).size
    have zl := size_strOf raw
    refine Ev.congr (fun k => ?_) (l2_run u hu M M0 M1 [strOfNums raw, strOfNums (digs u), (⟨#[48]⟩ : ByteArray) ++ strOfNums (digs u), strOfNums (digs u) ++ (⟨#[48]⟩ : ByteArray), strOfNums (digs u) ++ strOfNums [by_], (strOfNums (digs u)).extract 1 (strOfNums (digs u)).size] (by simp) ?_ _ 0 rfl (Nat.zero_le _))
    · rw [if_pos (by omega), if_pos (by omega), Option.bind_some, if_pos (by omega), if_pos (by omega), Option.bind_some]
      rfl
    · intro x hx
      simp only [List.mem_cons, List.mem_nil_iff, or_false] at hx
      rcases hx with rfl | rfl | rfl | rfl | rfl | rfl <;> (try rw [za]) <;> (try rw [z48]) <;> (try rw [s1]) <;> omega
  | cons x l ih =>
    intro n h hn
    obtain ⟨h1, h2, h3, h4⟩ := dropc rd_T37 z37 (fun _ _ => rfl) h
    have hx := hL x (List.mem_of_mem_drop (i := n) (by rw [h]; exact List.mem_cons_self ..))
    refine Ev.step (f := ?wf) ?wh ?wk
    case wh =>
      intro k
      simp only [glebelaw6_DateTells.l1]
      rw [if_pos (by omega), if_pos (by omega), if_pos (by omega), h2, wrap_nat (by omega)]
    refine Ev.bind (g := fun k => date_Parse.f k x.f0 x.f1) (parse_any x.f0 x.f1 hx.1 hx.2) (Ev.bind (g := fun k => gleberef1_Date.f k x.f0 x.f1) (rdate_any x.f0 x.f1 hx.1 hx.2) ?_)
    refine Ev.congr (fun k => ?_) (ih (n + 1) h3 (by omega))
    rw [if_pos rfl, if_neg (by simp)]
theorem l0_round (raw : List Int) (sec : Nat) (hs : sec < 18446744073709551616) (at_ by_ n M : Int) (i : Int) (hi : i < 2)
    (h : Ev (fun k => glebelaw6_DateTells.l0 k raw ((sec % 253402300800 : Nat) : Int) at_ by_ n M (wrap64 (i + 1))) true) :
    Ev (fun k => glebelaw6_DateTells.l0 k raw (sec : Int) at_ by_ n M i) true := by
  obtain ⟨P, p1, p2, p3⟩ := both sec
  refine Ev.step (f := ?qf) ?qh ?qk
  case qh =>
    intro k
    simp only [glebelaw6_DateTells.l0]
    rw [if_pos hi]
  refine Ev.bind (g := fun k => date_Print.f k (sec : Int)) p1 (Ev.bind (g := fun k => gleberef1_PrintDate.f k (sec : Int)) p2 ?_)
  refine Ev.congr (fun k => ?_) h
  have e : Int.tmod (sec : Int) 253402300800 = ((sec % 253402300800 : Nat) : Int) := by rw [tmod_nn (by omega)]; omega
  rw [if_pos rfl, if_pos rfl, if_neg (by simp), e]
  unfold date_Week.f gleberef1_Week.f
  rw [Option.bind_some, Option.bind_some, if_pos rfl]
theorem DateTells : glebelaw6_DateTells.Pure := by
  intro l0 a1 a2 a3 a4 a5 h1 h2 h3 h4 h5 h6 h7 h8
  apply Ev.rounds
  have hu1 := u64_of_wf h4
  have hu4 := u64_of_wf h7
  have hu5 := u64_of_wf h8
  by_cases hlen : (l0.length : Int) > 100
  · refine Ev.congr (fun k => ?_) finZ
    unfold glebelaw6_DateTells.f
    rw [if_pos hlen]
  · obtain ⟨sec, rfl⟩ : ∃ sec : Nat, a1 = (sec : Int) := ⟨a1.toNat, by omega⟩
    obtain ⟨u, rfl⟩ : ∃ u : Nat, a4 = (u : Int) := ⟨a4.toNat, by omega⟩
    refine Ev.congr (f := fun k => glebelaw6_DateTells.l0 k l0 (sec : Int) a2 a3 (u : Int) a5 0) (fun k => ?_) ?_
    · unfold glebelaw6_DateTells.f
      rw [if_neg hlen]
    refine l0_round l0 sec (by omega) a2 a3 u a5 0 (by omega) ?_
    rw [show wrap64 ((0 : Int) + 1) = 1 by unfold wrap64; omega]
    refine l0_round l0 (sec % 253402300800) (by omega) a2 a3 u a5 1 (by omega) ?_
    rw [show wrap64 ((1 : Int) + 1) = 2 by unfold wrap64; omega]
    generalize hv : sec % 253402300800 % 253402300800 = v
    have hv1 : v ≤ 253402300799 := by omega
    obtain ⟨P, p1, p2, p3⟩ := both v
    obtain ⟨s1, s2⟩ := p3 hv1
    have hk : Int.tmod (Go.bits .and .i64 a2 255) 10 = (((a2 % 256 % 10).toNat : Nat) : Int) := by
      rw [and255, tmod_nn (by omega)]; omega
    have hj : Go.bits .and .i64 (a2 / 256) 7 = (((a2 / 256 % 8).toNat : Nat) : Int) := by
      rw [and7]; omega
    have hk10 : (a2 % 256 % 10).toNat < 10 := by omega
    have hj8 : (a2 / 256 % 8).toNat < 8 := by omega
    generalize (a2 % 256 % 10).toNat = K at hk hk10
    generalize (a2 / 256 % 8).toNat = J at hj hj8
    have z1 : ∀ c : Int, (strOfNums [c]).size = 1 := fun c => by rw [size_strOf]; rfl
    have y1 := z1 a3
    have y2 := z1 ((48 + (Int.tmod a3 10)) % 256)
    have x1 := ext_le P.1 0 K
    have x2 := ext_le P.1 (K + 1) P.1.size
    have x3 := ext_le P.2.1 0 J
    have x4 := ext_le P.2.1 (J + 1) P.2.1.size
    refine Ev.step (f := ?qf) ?qh ?qk
    case qh =>
      intro k
      simp only [glebelaw6_DateTells.l0]
      rw [if_neg (by omega)]
    refine Ev.bind (g := fun k => gleberef1_PrintDate.f k (v : Int)) p2 ?_
    have za : ∀ (x y : ByteArray), (x ++ y).size = x.size + y.size := fun x y => ByteArray.size_append
    have zl := size_strOf l0
    refine Ev.congr (f := ?qf2) ?qh2 ?qk2
    case qh2 =>
      intro k
      simp only [hk, hj, Option.bind_some, wrap_nat (show K < 4611686018427387904 by omega), wrap_nat (show J < 4611686018427387904 by omega), Int.toNat_natCast, y1, y2]
      rw [if_pos (by omega), if_pos (by omega), if_pos (by omega), if_pos (by omega), if_pos (by omega), if_pos (by omega), if_pos (by omega), if_pos (by omega), if_pos (by omega), if_pos (by omega), if_pos (by omega), if_pos (by omega), if_pos (by omega), if_pos (by omega), if_pos (by omega), if_pos (by omega)]
    refine l1_run l0 (by omega) a3 u (by omega) a5 hu5.1 hu5.2 _ (by simp) ?_ _ 0 rfl (Nat.zero_le _)
    have cat : ∀ (x y z : ByteArray), x.size ≤ 10 → y.size = 1 → z.size ≤ 10 → ((x ++ y) ++ z).size < 1000 := by
      intro x y z a b c
      rw [za, za]
      omega
    have g0 : (strOfNums l0).size < 1000 := by omega
    have g1 : P.1.size < 1000 := by omega
    have g2 : P.2.1.size < 1000 := by omega
    refine List.forall_mem_cons.2 ⟨⟨g0, g2⟩, List.forall_mem_cons.2 ⟨⟨g1, g0⟩, List.forall_mem_cons.2 ⟨⟨g1, g2⟩, List.forall_mem_cons.2 ⟨⟨cat _ _ _ (by omega) y1 (by omega), g2⟩, List.forall_mem_cons.2 ⟨⟨g1, cat _ _ _ (by omega) y1 (by omega)⟩, List.forall_mem_cons.2 ⟨⟨cat _ _ _ (by omega) y2 (by omega), g2⟩, List.forall_mem_cons.2 ⟨⟨g1, cat _ _ _ (by omega) y2 (by omega)⟩, fun x hx => absurd hx List.not_mem_nil⟩⟩⟩⟩⟩⟩⟩
end Go.Proofs.YtcgchblljhbdaaaDoor.Pure
