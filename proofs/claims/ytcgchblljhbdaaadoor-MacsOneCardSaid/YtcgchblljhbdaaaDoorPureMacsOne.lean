/- A hardware address has one form: in capitals it is the same; with a byte out of its place it is none, or another. -/
import Derived.Test.YtcgchblljhbdaaaDoorMx2
import Derived.Test.YtcgchblljhbdaaaDoorMx4
import Derived.Test.YtcgchblljhbdaaaDoorMacsT
namespace Go.Proofs.YtcgchblljhbdaaaDoor.Pure
open Go Go.RowKit Go.Proofs.YtcgchblljhbdaaaDoor.M Go.Proofs.YtcgchblljhbdaaaDoorW.PrintWords Go.Proofs.YtcgchblljhbdaaaDoorW.PrintMore Go.Proofs.YtcgchblljhbdaaaDoorW.PrintLast Go.Proofs.YtcgchblljhbdaaaDoor.PL Go.Proofs.YtcgchblljhbdaaaDoor.PB Go.Proofs.YtcgchblljhbdaaaDoor.MacsS
set_option linter.unusedSimpArgs false
set_option linter.unusedVariables false
theorem awM : Ev (fun k => glebelaw5_awake.f k) true := Ev.of (fun k => glebelaw5_awake.mono k) (k := 200) (by kernel_rfl)
theorem finM : Ev (fun k => (glebelaw5_awake.f k).bind fun t => some t) true := Ev.bind (g := fun k => glebelaw5_awake.f k) awM (Ev.now _)
theorem u64_of_wf {x : Int} (h : (Lit.int .u64 x).wf = true) : 0 ≤ x ∧ x < 18446744073709551616 := by
  have h8 : IntKind.u64.min = 0 ∧ IntKind.u64.max = 18446744073709551615 := by decide
  simp [Lit.wf] at h
  omega
theorem ext_le (s : ByteArray) (a b : Nat) : (s.extract a b).size ≤ s.size := by
  rw [ByteArray.size_extract]
  omega
theorem nin5 {a b c d e : Int} (ha : dOk a) (hb : dOk b) (hc : dOk c) (hd : dOk d) (he : dOk e) : (58 : UInt8) ∉ [UInt8.ofNat a.toNat, UInt8.ofNat b.toNat, UInt8.ofNat c.toNat, UInt8.ofNat d.toNat, UInt8.ofNat e.toNat] := by
  intro h
  rcases List.mem_cons.1 h with h | h
  · exact u_ne a ha.1 ha.2.1 ha.2.2.2 h.symm
  · rcases List.mem_cons.1 h with h | h
    · exact u_ne b hb.1 hb.2.1 hb.2.2.2 h.symm
    · rcases List.mem_cons.1 h with h | h
      · exact u_ne c hc.1 hc.2.1 hc.2.2.2 h.symm
      · exact nin hd he h
def dQ (a : Int) : Prop := dOk a ∧ (a = 48 → dg 49 ≠ dg a) ∧ (a ≠ 48 → dg 48 ≠ dg a)
theorem dOk48 : dOk 48 := by unfold dOk; exact ⟨by decide, by decide, of_decide_eq_true (by kernel_rfl), by decide⟩
theorem dOk49 : dOk 49 := by unfold dOk; exact ⟨by decide, by decide, of_decide_eq_true (by kernel_rfl), by decide⟩
set_option maxHeartbeats 1600000 in
theorem other (a0 a1 a2 a3 a4 a5 a6 a7 a8 a9 a10 a11 : Int) (h0 : dQ a0) (h1 : dQ a1) (h2 : dQ a2) (h3 : dQ a3) (h4 : dQ a4) (h5 : dQ a5) (h6 : dQ a6) (h7 : dQ a7) (h8 : dQ a8) (h9 : dQ a9) (h10 : dQ a10) (h11 : dQ a11) (j : Nat) (hj : j < 17) (d : Int) (hd : d = 49 ∧ rd (text a0 a1 a2 a3 a4 a5 a6 a7 a8 a9 a10 a11) (j : Int) = 48 ∨ d = 48 ∧ rd (text a0 a1 a2 a3 a4 a5 a6 a7 a8 a9 a10 a11) (j : Int) ≠ 48) :
    ∃ o ok, macV (pieces 58 (strOfNums ((text a0 a1 a2 a3 a4 a5 a6 a7 a8 a9 a10 a11).take j ++ [d] ++ (text a0 a1 a2 a3 a4 a5 a6 a7 a8 a9 a10 a11).drop (j + 1)))) = (o, ok) ∧ ok = (rd (text a0 a1 a2 a3 a4 a5 a6 a7 a8 a9 a10 a11) (j : Int) != 58) ∧ (ok = true → o ≠ val a0 a1 a2 a3 a4 a5 a6 a7 a8 a9 a10 a11) := by
  have hdo : dOk d := by rcases hd with ⟨rfl, _⟩ | ⟨rfl, _⟩; exact dOk49; exact dOk48
  have hj' : j = 0 ∨ j = 1 ∨ j = 2 ∨ j = 3 ∨ j = 4 ∨ j = 5 ∨ j = 6 ∨ j = 7 ∨ j = 8 ∨ j = 9 ∨ j = 10 ∨ j = 11 ∨ j = 12 ∨ j = 13 ∨ j = 14 ∨ j = 15 ∨ j = 16 := by omega
  rcases hj' with rfl | rfl | rfl | rfl | rfl | rfl | rfl | rfl | rfl | rfl | rfl | rfl | rfl | rfl | rfl | rfl | rfl
  · refine ⟨val d a1 a2 a3 a4 a5 a6 a7 a8 a9 a10 a11, true, macV_text d a1 a2 a3 a4 a5 a6 a7 a8 a9 a10 a11 hdo h1.1 h2.1 h3.1 h4.1 h5.1 h6.1 h7.1 h8.1 h9.1 h10.1 h11.1, ?_, fun _ => ?_⟩
    · show true = (a0 != 58)
      have := h0.1.2.2.2
      simp [this]
    · have hx : dg d ≠ dg a0 := by
        rcases hd with ⟨rfl, h⟩ | ⟨rfl, h⟩
        · exact h0.2.1 h
        · exact h0.2.2 h
      unfold val
      omega
  · refine ⟨val a0 d a2 a3 a4 a5 a6 a7 a8 a9 a10 a11, true, macV_text a0 d a2 a3 a4 a5 a6 a7 a8 a9 a10 a11 h0.1 hdo h2.1 h3.1 h4.1 h5.1 h6.1 h7.1 h8.1 h9.1 h10.1 h11.1, ?_, fun _ => ?_⟩
    · show true = (a1 != 58)
      have := h1.1.2.2.2
      simp [this]
    · have hx : dg d ≠ dg a1 := by
        rcases hd with ⟨rfl, h⟩ | ⟨rfl, h⟩
        · exact h1.2.1 h
        · exact h1.2.2 h
      unfold val
      omega
  · refine ⟨0, false, ?_, rfl, fun h => by cases h⟩
    have e : (strOfNums ((text a0 a1 a2 a3 a4 a5 a6 a7 a8 a9 a10 a11).take 2 ++ [d] ++ (text a0 a1 a2 a3 a4 a5 a6 a7 a8 a9 a10 a11).drop (2 + 1))).data.toList = [UInt8.ofNat a0.toNat, UInt8.ofNat a1.toNat, UInt8.ofNat d.toNat, UInt8.ofNat a2.toNat, UInt8.ofNat a3.toNat] ++ 58 :: ([UInt8.ofNat a4.toNat, UInt8.ofNat a5.toNat] ++ 58 :: ([UInt8.ofNat a6.toNat, UInt8.ofNat a7.toNat] ++ 58 :: ([UInt8.ofNat a8.toNat, UInt8.ofNat a9.toNat] ++ 58 :: ([UInt8.ofNat a10.toNat, UInt8.ofNat a11.toNat])))) := rfl
    unfold pieces macV
    rw [e, sp_hit _ _ _ _ (nin5 h0.1 h1.1 hdo h2.1 h3.1), sp_hit _ _ _ _ (nin h4.1 h5.1), sp_hit _ _ _ _ (nin h6.1 h7.1), sp_hit _ _ _ _ (nin h8.1 h9.1), sp_none _ _ _ (nin h10.1 h11.1)]
    rw [if_neg (fun z => absurd z.2 (by simp))]
  · refine ⟨val a0 a1 d a3 a4 a5 a6 a7 a8 a9 a10 a11, true, macV_text a0 a1 d a3 a4 a5 a6 a7 a8 a9 a10 a11 h0.1 h1.1 hdo h3.1 h4.1 h5.1 h6.1 h7.1 h8.1 h9.1 h10.1 h11.1, ?_, fun _ => ?_⟩
    · show true = (a2 != 58)
      have := h2.1.2.2.2
      simp [this]
    · have hx : dg d ≠ dg a2 := by
        rcases hd with ⟨rfl, h⟩ | ⟨rfl, h⟩
        · exact h2.2.1 h
        · exact h2.2.2 h
      unfold val
      omega
  · refine ⟨val a0 a1 a2 d a4 a5 a6 a7 a8 a9 a10 a11, true, macV_text a0 a1 a2 d a4 a5 a6 a7 a8 a9 a10 a11 h0.1 h1.1 h2.1 hdo h4.1 h5.1 h6.1 h7.1 h8.1 h9.1 h10.1 h11.1, ?_, fun _ => ?_⟩
    · show true = (a3 != 58)
      have := h3.1.2.2.2
      simp [this]
    · have hx : dg d ≠ dg a3 := by
        rcases hd with ⟨rfl, h⟩ | ⟨rfl, h⟩
        · exact h3.2.1 h
        · exact h3.2.2 h
      unfold val
      omega
  · refine ⟨0, false, ?_, rfl, fun h => by cases h⟩
    have e : (strOfNums ((text a0 a1 a2 a3 a4 a5 a6 a7 a8 a9 a10 a11).take 5 ++ [d] ++ (text a0 a1 a2 a3 a4 a5 a6 a7 a8 a9 a10 a11).drop (5 + 1))).data.toList = [UInt8.ofNat a0.toNat, UInt8.ofNat a1.toNat] ++ 58 :: ([UInt8.ofNat a2.toNat, UInt8.ofNat a3.toNat, UInt8.ofNat d.toNat, UInt8.ofNat a4.toNat, UInt8.ofNat a5.toNat] ++ 58 :: ([UInt8.ofNat a6.toNat, UInt8.ofNat a7.toNat] ++ 58 :: ([UInt8.ofNat a8.toNat, UInt8.ofNat a9.toNat] ++ 58 :: ([UInt8.ofNat a10.toNat, UInt8.ofNat a11.toNat])))) := rfl
    unfold pieces macV
    rw [e, sp_hit _ _ _ _ (nin h0.1 h1.1), sp_hit _ _ _ _ (nin5 h2.1 h3.1 hdo h4.1 h5.1), sp_hit _ _ _ _ (nin h6.1 h7.1), sp_hit _ _ _ _ (nin h8.1 h9.1), sp_none _ _ _ (nin h10.1 h11.1)]
    rw [if_neg (fun z => absurd z.2 (by simp))]
  · refine ⟨val a0 a1 a2 a3 d a5 a6 a7 a8 a9 a10 a11, true, macV_text a0 a1 a2 a3 d a5 a6 a7 a8 a9 a10 a11 h0.1 h1.1 h2.1 h3.1 hdo h5.1 h6.1 h7.1 h8.1 h9.1 h10.1 h11.1, ?_, fun _ => ?_⟩
    · show true = (a4 != 58)
      have := h4.1.2.2.2
      simp [this]
    · have hx : dg d ≠ dg a4 := by
        rcases hd with ⟨rfl, h⟩ | ⟨rfl, h⟩
        · exact h4.2.1 h
        · exact h4.2.2 h
      unfold val
      omega
  · refine ⟨val a0 a1 a2 a3 a4 d a6 a7 a8 a9 a10 a11, true, macV_text a0 a1 a2 a3 a4 d a6 a7 a8 a9 a10 a11 h0.1 h1.1 h2.1 h3.1 h4.1 hdo h6.1 h7.1 h8.1 h9.1 h10.1 h11.1, ?_, fun _ => ?_⟩
    · show true = (a5 != 58)
      have := h5.1.2.2.2
      simp [this]
    · have hx : dg d ≠ dg a5 := by
        rcases hd with ⟨rfl, h⟩ | ⟨rfl, h⟩
        · exact h5.2.1 h
        · exact h5.2.2 h
      unfold val
      omega
  · refine ⟨0, false, ?_, rfl, fun h => by cases h⟩
    have e : (strOfNums ((text a0 a1 a2 a3 a4 a5 a6 a7 a8 a9 a10 a11).take 8 ++ [d] ++ (text a0 a1 a2 a3 a4 a5 a6 a7 a8 a9 a10 a11).drop (8 + 1))).data.toList = [UInt8.ofNat a0.toNat, UInt8.ofNat a1.toNat] ++ 58 :: ([UInt8.ofNat a2.toNat, UInt8.ofNat a3.toNat] ++ 58 :: ([UInt8.ofNat a4.toNat, UInt8.ofNat a5.toNat, UInt8.ofNat d.toNat, UInt8.ofNat a6.toNat, UInt8.ofNat a7.toNat] ++ 58 :: ([UInt8.ofNat a8.toNat, UInt8.ofNat a9.toNat] ++ 58 :: ([UInt8.ofNat a10.toNat, UInt8.ofNat a11.toNat])))) := rfl
    unfold pieces macV
    rw [e, sp_hit _ _ _ _ (nin h0.1 h1.1), sp_hit _ _ _ _ (nin h2.1 h3.1), sp_hit _ _ _ _ (nin5 h4.1 h5.1 hdo h6.1 h7.1), sp_hit _ _ _ _ (nin h8.1 h9.1), sp_none _ _ _ (nin h10.1 h11.1)]
    rw [if_neg (fun z => absurd z.2 (by simp))]
  · refine ⟨val a0 a1 a2 a3 a4 a5 d a7 a8 a9 a10 a11, true, macV_text a0 a1 a2 a3 a4 a5 d a7 a8 a9 a10 a11 h0.1 h1.1 h2.1 h3.1 h4.1 h5.1 hdo h7.1 h8.1 h9.1 h10.1 h11.1, ?_, fun _ => ?_⟩
    · show true = (a6 != 58)
      have := h6.1.2.2.2
      simp [this]
    · have hx : dg d ≠ dg a6 := by
        rcases hd with ⟨rfl, h⟩ | ⟨rfl, h⟩
        · exact h6.2.1 h
        · exact h6.2.2 h
      unfold val
      omega
  · refine ⟨val a0 a1 a2 a3 a4 a5 a6 d a8 a9 a10 a11, true, macV_text a0 a1 a2 a3 a4 a5 a6 d a8 a9 a10 a11 h0.1 h1.1 h2.1 h3.1 h4.1 h5.1 h6.1 hdo h8.1 h9.1 h10.1 h11.1, ?_, fun _ => ?_⟩
    · show true = (a7 != 58)
      have := h7.1.2.2.2
      simp [this]
    · have hx : dg d ≠ dg a7 := by
        rcases hd with ⟨rfl, h⟩ | ⟨rfl, h⟩
        · exact h7.2.1 h
        · exact h7.2.2 h
      unfold val
      omega
  · refine ⟨0, false, ?_, rfl, fun h => by cases h⟩
    have e : (strOfNums ((text a0 a1 a2 a3 a4 a5 a6 a7 a8 a9 a10 a11).take 11 ++ [d] ++ (text a0 a1 a2 a3 a4 a5 a6 a7 a8 a9 a10 a11).drop (11 + 1))).data.toList = [UInt8.ofNat a0.toNat, UInt8.ofNat a1.toNat] ++ 58 :: ([UInt8.ofNat a2.toNat, UInt8.ofNat a3.toNat] ++ 58 :: ([UInt8.ofNat a4.toNat, UInt8.ofNat a5.toNat] ++ 58 :: ([UInt8.ofNat a6.toNat, UInt8.ofNat a7.toNat, UInt8.ofNat d.toNat, UInt8.ofNat a8.toNat, UInt8.ofNat a9.toNat] ++ 58 :: ([UInt8.ofNat a10.toNat, UInt8.ofNat a11.toNat])))) := rfl
    unfold pieces macV
    rw [e, sp_hit _ _ _ _ (nin h0.1 h1.1), sp_hit _ _ _ _ (nin h2.1 h3.1), sp_hit _ _ _ _ (nin h4.1 h5.1), sp_hit _ _ _ _ (nin5 h6.1 h7.1 hdo h8.1 h9.1), sp_none _ _ _ (nin h10.1 h11.1)]
    rw [if_neg (fun z => absurd z.2 (by simp))]
  · refine ⟨val a0 a1 a2 a3 a4 a5 a6 a7 d a9 a10 a11, true, macV_text a0 a1 a2 a3 a4 a5 a6 a7 d a9 a10 a11 h0.1 h1.1 h2.1 h3.1 h4.1 h5.1 h6.1 h7.1 hdo h9.1 h10.1 h11.1, ?_, fun _ => ?_⟩
    · show true = (a8 != 58)
      have := h8.1.2.2.2
      simp [this]
    · have hx : dg d ≠ dg a8 := by
        rcases hd with ⟨rfl, h⟩ | ⟨rfl, h⟩
        · exact h8.2.1 h
        · exact h8.2.2 h
      unfold val
      omega
  · refine ⟨val a0 a1 a2 a3 a4 a5 a6 a7 a8 d a10 a11, true, macV_text a0 a1 a2 a3 a4 a5 a6 a7 a8 d a10 a11 h0.1 h1.1 h2.1 h3.1 h4.1 h5.1 h6.1 h7.1 h8.1 hdo h10.1 h11.1, ?_, fun _ => ?_⟩
    · show true = (a9 != 58)
      have := h9.1.2.2.2
      simp [this]
    · have hx : dg d ≠ dg a9 := by
        rcases hd with ⟨rfl, h⟩ | ⟨rfl, h⟩
        · exact h9.2.1 h
        · exact h9.2.2 h
      unfold val
      omega
  · refine ⟨0, false, ?_, rfl, fun h => by cases h⟩
    have e : (strOfNums ((text a0 a1 a2 a3 a4 a5 a6 a7 a8 a9 a10 a11).take 14 ++ [d] ++ (text a0 a1 a2 a3 a4 a5 a6 a7 a8 a9 a10 a11).drop (14 + 1))).data.toList = [UInt8.ofNat a0.toNat, UInt8.ofNat a1.toNat] ++ 58 :: ([UInt8.ofNat a2.toNat, UInt8.ofNat a3.toNat] ++ 58 :: ([UInt8.ofNat a4.toNat, UInt8.ofNat a5.toNat] ++ 58 :: ([UInt8.ofNat a6.toNat, UInt8.ofNat a7.toNat] ++ 58 :: ([UInt8.ofNat a8.toNat, UInt8.ofNat a9.toNat, UInt8.ofNat d.toNat, UInt8.ofNat a10.toNat, UInt8.ofNat a11.toNat])))) := rfl
    unfold pieces macV
    rw [e, sp_hit _ _ _ _ (nin h0.1 h1.1), sp_hit _ _ _ _ (nin h2.1 h3.1), sp_hit _ _ _ _ (nin h4.1 h5.1), sp_hit _ _ _ _ (nin h6.1 h7.1), sp_none _ _ _ (nin5 h8.1 h9.1 hdo h10.1 h11.1)]
    rw [if_neg (fun z => absurd z.2 (by simp))]
  · refine ⟨val a0 a1 a2 a3 a4 a5 a6 a7 a8 a9 d a11, true, macV_text a0 a1 a2 a3 a4 a5 a6 a7 a8 a9 d a11 h0.1 h1.1 h2.1 h3.1 h4.1 h5.1 h6.1 h7.1 h8.1 h9.1 hdo h11.1, ?_, fun _ => ?_⟩
    · show true = (a10 != 58)
      have := h10.1.2.2.2
      simp [this]
    · have hx : dg d ≠ dg a10 := by
        rcases hd with ⟨rfl, h⟩ | ⟨rfl, h⟩
        · exact h10.2.1 h
        · exact h10.2.2 h
      unfold val
      omega
  · refine ⟨val a0 a1 a2 a3 a4 a5 a6 a7 a8 a9 a10 d, true, macV_text a0 a1 a2 a3 a4 a5 a6 a7 a8 a9 a10 d h0.1 h1.1 h2.1 h3.1 h4.1 h5.1 h6.1 h7.1 h8.1 h9.1 h10.1 hdo, ?_, fun _ => ?_⟩
    · show true = (a11 != 58)
      have := h11.1.2.2.2
      simp [this]
    · have hx : dg d ≠ dg a11 := by
        rcases hd with ⟨rfl, h⟩ | ⟨rfl, h⟩
        · exact h11.2.1 h
        · exact h11.2.2 h
      unfold val
      omega
def upc (c : Int) : Int := if c ≥ 97 then (if c ≤ 102 then (c - 32) % 256 else c) else c
theorem hx_q (n : Int) (h0 : 0 ≤ n) (h1 : n < 16) : dQ (hx n) ∧ dOk (upc (hx n)) ∧ dg (upc (hx n)) = n := by
  have h := hx_ok n h0 h1
  have h2 := byteB (p := fun n => decide (16 ≤ n) || ((!decide (hx n = 48) || !decide (dg 49 = dg (hx n))) && (decide (hx n = 48) || !decide (dg 48 = dg (hx n))) && decide (0 ≤ upc (hx n)) && decide (upc (hx n) < 256) && decide (dg (upc (hx n)) = n) && !decide (upc (hx n) = 58))) (by kernel_rfl) n h0 (by omega)
  have h3 : ¬ 16 ≤ n := by omega
  simp [h3] at h2
  refine ⟨⟨h.1, fun e => ?_, fun e => ?_⟩, ?_, h2.1.2⟩
  · have := h2.1.1.1.1.1
    simpa [e] using this
  · have := h2.1.1.1.1.2
    simpa [e] using this
  · unfold dOk
    omega
theorem textM_ok (m : Int) : ∀ x ∈ textM m, 0 ≤ x ∧ x < 256 := by
  have b0 := by_range m 0; have b1 := by_range m 1; have b2 := by_range m 2; have b3 := by_range m 3; have b4 := by_range m 4; have b5 := by_range m 5
  have q := fun (b : Int) => (show 0 ≤ hx b ∧ hx b < 256 from bt_lt _ _)
  intro x hx'
  unfold textM text at hx'
  simp only [List.mem_cons, List.mem_nil_iff, or_false] at hx'
  rcases hx' with rfl | rfl | rfl | rfl | rfl | rfl | rfl | rfl | rfl | rfl | rfl | rfl | rfl | rfl | rfl | rfl | rfl <;> first | exact q _ | (constructor <;> decide)
theorem up_text (m : Int) (h0 : 0 ≤ m) (h1 : m < 281474976710656) : macV (pieces 58 (strOfNums ((textM m).map upc))) = (m, true) := by
  have b0 := by_range m 0; have b1 := by_range m 1; have b2 := by_range m 2; have b3 := by_range m 3; have b4 := by_range m 4; have b5 := by_range m 5
  have q := fun (b : Int) (h : 0 ≤ b ∧ b < 256) => (hx_q (b / 16) (by omega) (by omega)).2
  have p := fun (b : Int) (h : 0 ≤ b ∧ b < 256) => (hx_q (b % 16) (by omega) (by omega)).2
  have e58 : upc 58 = 58 := by decide
  unfold textM text
  simp only [List.map_cons, List.map_nil, e58]
  refine (macV_text _ _ _ _ _ _ _ _ _ _ _ _ (q _ b5).1 (p _ b5).1 (q _ b4).1 (p _ b4).1 (q _ b3).1 (p _ b3).1 (q _ b2).1 (p _ b2).1 (q _ b1).1 (p _ b1).1 (q _ b0).1 (p _ b0).1).trans ?_
  unfold val
  rw [(q _ b5).2, (p _ b5).2, (q _ b4).2, (p _ b4).2, (q _ b3).2, (p _ b3).2, (q _ b2).2, (p _ b2).2, (q _ b1).2, (p _ b1).2, (q _ b0).2, (p _ b0).2]
  congr 1
  unfold by_
  simp only [Nat.mul_zero, Nat.reduceMul, Int.reducePow]
  omega
theorem other_M (m : Int) (h0 : 0 ≤ m) (h1 : m < 281474976710656) (j : Nat) (hj : j < 17) (d : Int) (hd : d = 49 ∧ rd (textM m) (j : Int) = 48 ∨ d = 48 ∧ rd (textM m) (j : Int) ≠ 48) :
    ∃ o ok, macV (pieces 58 (strOfNums ((textM m).take j ++ [d] ++ (textM m).drop (j + 1)))) = (o, ok) ∧ ok = (rd (textM m) (j : Int) != 58) ∧ (ok = true → o ≠ m) := by
  have b0 := by_range m 0; have b1 := by_range m 1; have b2 := by_range m 2; have b3 := by_range m 3; have b4 := by_range m 4; have b5 := by_range m 5
  have q := fun (b : Int) (h : 0 ≤ b ∧ b < 256) => (hx_q (b / 16) (by omega) (by omega)).1
  have p := fun (b : Int) (h : 0 ≤ b ∧ b < 256) => (hx_q (b % 16) (by omega) (by omega)).1
  have hp := parse_textM m h0 h1
  unfold textM at hp hd ⊢
  rw [macV_text _ _ _ _ _ _ _ _ _ _ _ _ (q _ b5).1 (p _ b5).1 (q _ b4).1 (p _ b4).1 (q _ b3).1 (p _ b3).1 (q _ b2).1 (p _ b2).1 (q _ b1).1 (p _ b1).1 (q _ b0).1 (p _ b0).1] at hp
  have hv := congrArg Prod.fst hp
  have := other _ _ _ _ _ _ _ _ _ _ _ _ (q _ b5) (p _ b5) (q _ b4) (p _ b4) (q _ b3) (p _ b3) (q _ b2) (p _ b2) (q _ b1) (p _ b1) (q _ b0) (p _ b0) j hj d hd
  simp only at hv
  rw [hv] at this
  exact this
theorem replaced (m : Int) (j : Nat) (hj : j < 17) (d : Int) (s : ByteArray) (hs : strOfNums (textM m) = s) (hsz : s.size = 17) : (s.extract 0 j ++ strOfNums [d]) ++ s.extract (j + 1) s.size = strOfNums ((textM m).take j ++ [d] ++ (textM m).drop (j + 1)) := by
  have hl : (textM m).length = 17 := rfl
  rw [hsz, ← hs, strOf_extract _ (textM_ok m), strOf_extract _ (textM_ok m), List.drop_zero, ← strOf_app, ← strOf_app, List.take_of_length_le (show (textM m).length ≤ 17 by omega)]
theorem one_loop (m : Int) (h0 : 0 ≤ m) (h1 : m < 281474976710656) (a1 : Int) (s : ByteArray) (hs : strOfNums (textM m) = s) (hsz : s.size = 17) :
    ∀ (l : List Int) (n : Nat), (textM m).drop n = l → n ≤ 17 → Ev (fun k => glebelaw5_MacsOne.l0 k m a1 s (strOfNums (((textM m).take n).map upc)) (n : Int)) true := by
  have hT : (textM m).length = 17 := rfl
  have hbs : bytesOf s = textM m := by rw [← hs, bytesOf_strOf _ (textM_ok m)]
  have z1 : ∀ c : Int, (strOfNums [c]).size = 1 := fun c => by rw [size_strOf]; rfl
  intro l
  induction l with
  | nil =>
    intro n h hn
    have he := dn h (by omega)
    rw [List.take_of_length_le (by omega)]
    have hj : Int.tmod (Go.bits .and .i64 a1 255) 17 = ((((a1 % 256) % 17).toNat : Nat) : Int) := by
      rw [and255, tmod_nn (by omega)]
      omega
    have hj17 : ((a1 % 256) % 17).toNat < 17 := by omega
    generalize ((a1 % 256) % 17).toNat = j at hj hj17
    have x1 := ext_le s 0 j
    have x2 := ext_le s (j + 1) s.size
    have hup := parse (strOfNums ((textM m).map upc)) (by rw [size_strOf, List.length_map]; omega)
    rw [up_text m h0 h1] at hup
    refine Ev.step (f := ?f) ?h ?k
    case h =>
      intro k
      simp only [glebelaw5_MacsOne.l0]
      rw [if_neg (by omega)]
    refine Ev.bind (g := fun k => macs_Parse.f k (strOfNums ((textM m).map upc))) hup ?_
    by_cases h48 : bt s (j : Int) = 48
    · obtain ⟨o, ok, e1, e2, e3⟩ := other_M m h0 h1 j hj17 49 (.inl ⟨rfl, by rw [← hbs, ← bt_rd]; exact h48⟩)
      have hq := parse (strOfNums ((textM m).take j ++ [49] ++ (textM m).drop (j + 1))) (by rw [size_strOf]; simp; omega)
      rw [e1] at hq
      have hr := replaced m j hj17 49 s hs hsz
      have y1 := z1 49
      refine Ev.congr (f := ?f2) ?h2 ?k2
      case h2 =>
        intro k
        simp only [hj, Option.bind_some, wrap_nat (show j < 4611686018427387904 by omega), Int.toNat_natCast, y1]
        rw [if_pos (by omega), if_pos (by omega), if_pos h48, if_pos (by omega), if_pos (by omega), if_pos (by omega), if_pos (by omega), if_pos (by omega), hr]
      refine Ev.bind (g := fun k => macs_Parse.f k (strOfNums ((textM m).take j ++ [49] ++ (textM m).drop (j + 1)))) hq (Ev.congr (fun k => ?_) finM)
      have e4 : bt s (j : Int) = rd (textM m) (j : Int) := by rw [bt_rd, hbs]
      rw [if_pos trivial, if_pos trivial, e4, ← e2, if_pos (by simp)]
      cases ok with
      | false => rw [if_neg (by simp)]
      | true => rw [if_pos rfl, if_neg (e3 rfl)]
    · obtain ⟨o, ok, e1, e2, e3⟩ := other_M m h0 h1 j hj17 48 (.inr ⟨rfl, by rw [← hbs, ← bt_rd]; exact h48⟩)
      have hq := parse (strOfNums ((textM m).take j ++ [48] ++ (textM m).drop (j + 1))) (by rw [size_strOf]; simp; omega)
      rw [e1] at hq
      have hr := replaced m j hj17 48 s hs hsz
      have y1 := z1 48
      refine Ev.congr (f := ?f3) ?h3 ?k3
      case h3 =>
        intro k
        simp only [hj, Option.bind_some, wrap_nat (show j < 4611686018427387904 by omega), Int.toNat_natCast, y1]
        rw [if_pos (by omega), if_pos (by omega), if_neg h48, if_pos (by omega), if_pos (by omega), if_pos (by omega), if_pos (by omega), if_pos (by omega), hr]
      refine Ev.bind (g := fun k => macs_Parse.f k (strOfNums ((textM m).take j ++ [48] ++ (textM m).drop (j + 1)))) hq (Ev.congr (fun k => ?_) finM)
      have e4 : bt s (j : Int) = rd (textM m) (j : Int) := by rw [bt_rd, hbs]
      rw [if_pos trivial, if_pos trivial, e4, ← e2, if_pos (by simp)]
      cases ok with
      | false => rw [if_neg (by simp)]
      | true => rw [if_pos rfl, if_neg (e3 rfl)]
  | cons c l ih =>
    intro n h hn
    obtain ⟨g1, g2, g3, g4⟩ := dc h
    have hc : bt s (n : Int) = c := by rw [bt_rd, hbs, g2]
    have htk : (textM m).take (n + 1) = (textM m).take n ++ [c] := by
      rw [List.take_succ_eq_append_getElem g1]
      have := List.drop_eq_getElem_cons g1
      rw [h] at this
      injection this with e1 _
      rw [e1]
    have hlen : (strOfNums (((textM m).take n).map upc)).size ≤ 17 := by rw [size_strOf]; simp; omega
    refine Ev.step (f := fun k => glebelaw5_MacsOne.l0 k m a1 s (strOfNums (((textM m).take (n + 1)).map upc)) ((n + 1 : Nat) : Int)) (fun k => ?_) (ih (n + 1) g3 (by omega))
    have e1 : strOfNums (((textM m).take (n + 1)).map upc) = strOfNums (((textM m).take n).map upc) ++ strOfNums [upc c] := by
      rw [htk, List.map_append, strOf_app]
      rfl
    rw [e1]
    simp only [glebelaw5_MacsOne.l0]
    rw [hc, if_pos (by omega), if_pos (by omega), wrap_nat (by omega)]
    generalize strOfNums (((textM m).take n).map upc) = X at hlen ⊢
    unfold upc
    by_cases q1 : c ≥ 97
    · by_cases q2 : c ≤ 102
      · rw [if_pos q1, if_pos q2, if_pos q1, if_pos q2, Option.bind_some, z1, if_pos (by omega)]
      · rw [if_pos q1, if_neg q2, if_pos q1, if_neg q2, Option.bind_some, z1, if_pos (by omega)]
    · rw [if_neg q1, if_neg q1, Option.bind_some, z1, if_pos (by omega)]
theorem MacsOne : glebelaw5_MacsOne.Pure := by
  intro a0 a1 h1 h2
  apply Ev.rounds
  have hu := u64_of_wf h1
  have e48 := u64_48 a0 hu.1 hu.2
  have m0 : 0 ≤ a0 % 281474976710656 := by omega
  have m1 : a0 % 281474976710656 < 281474976710656 := by omega
  have hsz : (strOfNums (textM (a0 % 281474976710656))).size = 17 := by rw [size_strOf]; rfl
  refine Ev.congr (f := ?f) ?h ?k
  case h =>
    intro k
    unfold glebelaw5_MacsOne.f
    rw [e48]
  refine Ev.bind (g := fun k => macs_Print.f k (a0 % 281474976710656)) (print_f _ m0 m1) ?_
  have hl := one_loop _ m0 m1 a1 _ rfl hsz (textM (a0 % 281474976710656)) 0 rfl (by omega)
  refine Ev.congr (f := fun k => glebelaw5_MacsOne.j0 k (a0 % 281474976710656) a1 (strOfNums (textM (a0 % 281474976710656))) false) (fun k => ?_) (Ev.step (fun k => ?_) hl)
  · rw [if_pos rfl]
    have : (((strOfNums (textM (a0 % 281474976710656)), true).1.size : Int) != 17) = false := by
      show (((strOfNums (textM (a0 % 281474976710656))).size : Int) != 17) = false
      rw [hsz]
      rfl
    rw [this]
  · simp only [glebelaw5_MacsOne.j0]
    rw [if_neg (by simp)]
    rfl
end Go.Proofs.YtcgchblljhbdaaaDoor.Pure
