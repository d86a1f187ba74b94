/- Any text is the hardware address, and the name, that the document says, or none; any number has its text, or none. -/
import Derived.Test.YtcgchblljhbdaaaDoorMx2
import Derived.Test.YtcgchblljhbdaaaDoorMx7
import Derived.Test.YtcgchblljhbdaaaDoorMacsT
namespace Go.Proofs.YtcgchblljhbdaaaDoor.Pure
open Go Go.RowKit Go.Proofs.YtcgchblljhbdaaaDoor.M Go.Proofs.YtcgchblljhbdaaaDoorW.PrintWords Go.Proofs.YtcgchblljhbdaaaDoorW.PrintMore Go.Proofs.YtcgchblljhbdaaaDoorW.PrintLast Go.Proofs.YtcgchblljhbdaaaDoor.PL Go.Proofs.YtcgchblljhbdaaaDoor.PB Go.Proofs.YtcgchblljhbdaaaDoor.MacsS
set_option linter.unusedSimpArgs false
set_option linter.unusedVariables false
theorem awM : Ev (fun k => glebelaw5_awake.f k) true := Ev.of (fun k => glebelaw5_awake.mono k) (k := 200) (by kernel_rfl)
theorem finM : Ev (fun k => (glebelaw5_awake.f k).bind fun t => some t) true := Ev.bind (g := fun k => glebelaw5_awake.f k) awM (Ev.now _)
theorem u64_of_wf {x : Int} (h : (Lit.int .u64 x).wf = true) : 0 ≤ x ∧ x < 18446744073709551616 := by
  have h8 : IntKind.u64.min = 0 ∧ IntKind.u64.max = 18446744073709551615 := by decide
  simp [Lit.wf] at h
  omega
theorem ext_le (s : ByteArray) (a b : Nat) : (s.extract a b).size ≤ s.size := by
  rw [ByteArray.size_extract]
  omega
theorem tells_loop (m : Int) (s : ByteArray) (L : List ByteArray) (hlen : L.length < 100) (hL : ∀ x ∈ L, x.size < 1048576)
    (hfin : Ev (fun k => (macs_Print.f k m).bind fun bt216 => ((gleberef1_PrintMac.f k m).bind fun bt218 => ((macs_Parse.f k s).bind fun bt220 => (if bt216.1.toList = bt218.1.toList then (if (bt216.2 == bt218.2) = true then (if bt220.2 = true then (if bt220.1 = (Go.bits .and .u64 m 281474976710655) then ((glebelaw5_awake.f k).bind fun t222 => (some t222)) else (none)) else (none)) else (none)) else (none))))) true) :
    ∀ (l : List ByteArray) (n : Nat), L.drop n = l → n ≤ L.length → Ev (fun k => glebelaw5_MacsTells.l0 k m s L (L.length : Int) (n : Int)) true := by
  intro l
  induction l with
  | nil =>
    intro n h hn
    have := dnB h hn
    refine Ev.step (fun k => ?_) hfin
    simp only [glebelaw5_MacsTells.l0]
    rw [if_neg (by omega)]
  | cons x l ih =>
    intro n h hn
    obtain ⟨h1, h2, h3, h4⟩ := dcB h
    have hx : x.size < 1048576 := hL x (List.mem_of_mem_drop (i := n) (by rw [h]; exact List.mem_cons_self ..))
    refine Ev.step (f := ?f) ?h ?k
    case h =>
      intro k
      simp only [glebelaw5_MacsTells.l0]
      rw [if_pos (by omega), if_pos (by omega), if_pos (by omega), h2, wrap_nat (by omega)]
    refine Ev.bind (g := fun k => macs_Parse.f k x) (parse x hx) (Ev.bind (g := fun k => gleberef1_Mac.f k x) (mac x hx) ?_)
    refine Ev.congr (f := ?f2) ?h2 ?k2
    case h2 =>
      intro k
      rw [if_pos rfl, if_neg (by simp)]
    refine Ev.bind (g := fun k => macs_Name.f k x) (name x hx) (Ev.bind (g := fun k => gleberef1_Name.f k x) (rname x hx) ?_)
    refine Ev.congr (fun k => ?_) (ih (n + 1) h3 (by omega))
    rw [if_neg (by simp)]
theorem MacsTells : glebelaw5_MacsTells.Pure := by
  intro l0 a1 a2 a3 h1 h2 h3 h4 h5 h6
  apply Ev.rounds
  have hu := u64_of_wf h4
  by_cases hlen : (l0.length : Int) > 100
  · refine Ev.congr (fun k => ?_) finM
    unfold glebelaw5_MacsTells.f
    rw [if_pos hlen]
  · have e48 := u64_48 a1 hu.1 hu.2
    have m0 : 0 ≤ a1 % 281474976710656 := by omega
    have m1 : a1 % 281474976710656 < 281474976710656 := by omega
    have hsz : (strOfNums (textM (a1 % 281474976710656))).size = 17 := by rw [size_strOf]; rfl
    have hpr := rprint_f _ m0 m1
    have hps := parse (strOfNums (textM (a1 % 281474976710656))) (by omega)
    rw [parse_textM _ m0 m1] at hps
    generalize hs : strOfNums (textM (a1 % 281474976710656)) = s at hsz hpr hps
    have hfin : Ev (fun k => (macs_Print.f k a1).bind fun bt216 => ((gleberef1_PrintMac.f k a1).bind fun bt218 => ((macs_Parse.f k s).bind fun bt220 => (if bt216.1.toList = bt218.1.toList then (if (bt216.2 == bt218.2) = true then (if bt220.2 = true then (if bt220.1 = (Go.bits .and .u64 a1 281474976710655) then ((glebelaw5_awake.f k).bind fun t222 => (some t222)) else (none)) else (none)) else (none)) else (none))))) true := by
      by_cases hm : a1 < 281474976710656
      · refine Ev.bind (g := fun k => macs_Print.f k a1) (print_f a1 hu.1 hm) (Ev.bind (g := fun k => gleberef1_PrintMac.f k a1) (rprint_f a1 hu.1 hm) (Ev.bind (g := fun k => macs_Parse.f k s) hps (Ev.congr (fun k => ?_) finM)))
        rw [if_pos rfl, if_pos (by simp), if_pos rfl, if_pos e48.symm]
      · refine Ev.bind (g := fun k => macs_Print.f k a1) (print_far a1 (by omega)) (Ev.bind (g := fun k => gleberef1_PrintMac.f k a1) (rprint_far a1 (by omega)) (Ev.bind (g := fun k => macs_Parse.f k s) hps (Ev.congr (fun k => ?_) finM)))
        rw [if_pos rfl, if_pos (by simp), if_pos rfl, if_pos e48.symm]
    have hj : Int.tmod (Go.bits .and .i64 a2 255) (s.size : Int) = ((((a2 % 256) % 17).toNat : Nat) : Int) := by
      rw [and255, tmod_nn (by omega), hsz]
      omega
    have hj17 : ((a2 % 256) % 17).toNat < 17 := by omega
    generalize ((a2 % 256) % 17).toNat = j at hj hj17
    have x1 := ext_le s 0 j
    have x2 := ext_le s (j + 1) s.size
    have z1 : ∀ c : Int, (strOfNums [c]).size = 1 := fun c => by rw [size_strOf]; rfl
    refine Ev.congr (f := ?f) ?h ?k
    case h =>
      intro k
      unfold glebelaw5_MacsTells.f
      rw [if_neg hlen, e48]
    refine Ev.bind (g := fun k => gleberef1_PrintMac.f k (a1 % 281474976710656)) hpr ?_
    have y1 := z1 a3
    refine Ev.congr (f := ?f2) ?h2 ?k2
    case h2 =>
      intro k
      simp only [hj, Option.bind_some, wrap_nat (show j < 4611686018427387904 by omega), Int.toNat_natCast, y1]
      rw [if_neg (by omega), if_pos (by omega), if_pos (by omega), if_pos (by omega), if_pos (by omega), if_pos (by omega), if_pos (by omega), if_pos (by omega), if_pos (by omega), if_pos (by omega)]
    refine tells_loop a1 s _ (by simp) ?_ hfin _ 0 rfl (Nat.zero_le _)
    have za : ∀ (x y : ByteArray), (x ++ y).size = x.size + y.size := fun x y => ByteArray.size_append
    have zA : (⟨#[65]⟩ : ByteArray).size = 1 := rfl
    have zl := size_strOf l0
    intro x hx
    simp only [List.mem_cons, List.mem_nil_iff, or_false] at hx
    rcases hx with rfl | rfl | rfl | rfl | rfl | rfl <;> (try rw [za]) <;> (try rw [za]) <;> (try rw [zA]) <;> (try rw [y1]) <;> omega
end Go.Proofs.YtcgchblljhbdaaaDoor.Pure
