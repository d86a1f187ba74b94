/- The statement KeapNames holds, for every input, as its tied card says it. -/
import Derived.Test.YtcccapeaeehjiaaGreatDoorRows
import Derived.Test.YtcccapeaeehjiaaGreatDoorTie
import Derived.Test.YtcccapeaeehjiaaGreatDoorCards
import Derived.Lay
import Derived.LaidMore
import Derived.LaidOnce
import Derived.SevenTiedAt
import Derived.Test.YtcccapeaeehjiaaGreatDoorAMqa
import Derived.Test.YtcccapeaeehjiaaGreatDoorAMqt
import Derived.WalkKit
import Derived.ProofKit
import Derived.OpenShut
import Derived.ShutString
import Derived.ChangeOld
import Derived.Below
import Derived.SizedLaws
namespace Go.Proofs.YtcccapeaeehjiaaGreatDoor.keapNames
open Go.ChangeShapes Go.WideShapes Go.ChangeAt Go.RowKit
open Go.ChangeMaps (open_string shut_string)
set_option linter.unusedVariables false
noncomputable def laidHere : List (String × DataW Unit) := [("math/bits.deBruijn32tab", Rows.laid_math_bits_deBruijn32tab), ("math/bits.deBruijn64tab", Rows.laid_math_bits_deBruijn64tab), ("internal/strconv.uint64pow10", Rows.laid_internal_strconv_uint64pow10), ("unicode/utf8.acceptRanges", Rows.laid_unicode_utf8_acceptRanges), ("unicode/utf8.first", Rows.laid_unicode_utf8_first)]
theorem own : ownKnob Tryz.prog.godebug = none := by kernel_rfl
set_option maxRecDepth 100000 in
theorem lifted (os : Os) (started : os.Started) (H : Type) (enc : TypeId × Value → H) :
    ReturnsInHanded {} Tryz.checked os 3 .any (fun w args => (Rows.keapNamesSpec.pre enc Tryz.prog Tryz.f3 [] false w args ∧ laidMetH Tryz.prog laidHere w) ∧ sizedMet enc Tryz.prog Tryz.f3 (OpenSpec.ofChange Rows.keapNamesSpec) false w args) (Rows.keapNamesSpec.post enc Tryz.prog Tryz.f3 false true false false) := by
  refine returnsInHanded_of_change_and (C := Tryz.checked) (X := fun w _ => laidMetH Tryz.prog laidHere w) (fun _ _ _ hh h => h.of_heap hh) own started (by kernel_rfl) Tryz.func3
    (ChangeSpec.witness_shaped (enc := enc) (C := Tryz.checked) (os := os) (X := fun w _ => laidMetH Tryz.prog laidHere w) false (World.laidAll Tryz.prog os laidHere) #[.int .i64 0] 8 (World.laidAll_os _ _ _)
      (World.shaped_of_ZipB (by kernel_rfl) (by kernel_rfl)) (by kernel_rfl) (by kernel_rfl) (by kernel_rfl)
      (by rw [MakeChecks.laidMetH_plain _ _ _ (by kernel_rfl)]; exact laidMet_laidAll _ (by kernel_rfl) (by kernel_rfl))) ?_
  intro W base args ds gs before hval0 hW hcnd hsz0 hL _
  have hsz : (DataW.weightsEach Tryz.prog (Tryz.f3.params.toList ++ Rows.keapNamesSpec.plain.varTypes Tryz.prog) (ds ++ gs)).all (· ≤ reachBytes) = true := hsz0
  have hval : ∀ (j : Nat) t v, Tryz.f3.params[j]? = some t → args[j]? = some v → Value.okWide Tryz.prog W .any base t v := hval0
  have hW' := hW
  obtain ⟨p, q, hA0, hV, rfl, hfz, hnd⟩ := hW
  have hA : DataW.TrodAll enc Tryz.prog W 0 (fun _ => true) true Tryz.f3.params.toList args.toList ds p := hA0
  rw [Tryz.params3] at hA hval hsz
  obtain ⟨v0, vs0, d0, ds0, p0, q0, hargs, rfl, rfl, h0, r0⟩ := trodAll_cons hA
  obtain ⟨rfl, rfl, rfl⟩ := trodAll_nil r0
  obtain rfl : args = #[v0] := by cases args; simp_all
  obtain ⟨rfl, rfl⟩ := trodVars_none hV
  obtain ⟨a0, rfl, rfl, rfl, w0⟩ := open_int Tryz.underlying3 (hval 0 3 v0 rfl rfl) h0
  clear hA0 hval0 hsz0 hsz
  have hTab : AM.TabC AM.tabs W := AM.tabs_of (by rw [MakeChecks.laidMetH_plain _ _ _ (by kernel_rfl)] at hL; exact hL) (fun t ht => by
    simp only [List.mem_cons, List.not_mem_nil, or_false] at ht
    unfold laidHere
    rcases ht with rfl | rfl <;> first | exact .head _ | exact .tail _ (.head _) | exact .tail _ (.tail _ (.head _)) | exact .tail _ (.tail _ (.tail _ (.head _))) | exact .tail _ (.tail _ (.tail _ (.tail _ (.head _)))) | exact .tail _ (.tail _ (.tail _ (.tail _ (.tail _ (.head _))))) | exact .tail _ (.tail _ (.tail _ (.tail _ (.tail _ (.tail _ (.head _)))))))
  have hcall : Calls Tryz.prog 3 #[.int .i64 a0] W fun e W' => e = .returned (.bool true) ∧ Below W.heap.size W W' := (AM.keapNames_all a0) W hTab
  refine hcall.mono fun e W' ⟨he, bel⟩ => ?_
  subst he
  exact ⟨_, rfl, _, _, _, [], _, [], hW', trodAll_mk1 (shut_bool Tryz.underlying4 _), (trodAll_cons_mk (shut_int Tryz.underlying3 w0) trodAll_mk0), rfl, bel.frame _, fun h => by cases h⟩
theorem ba {a b : Bool} (ha : a = true) (hb : b = true) : (a && b) = true := by rw [ha, hb]; rfl
theorem j0 : (Rows.keapNamesRow.wf (OpenSpec.ofChange Rows.keapNamesSpec) : Bool) = true := by kernel_rfl
theorem j1 : (laidOutB Tryz.prog : Bool) = true := by kernel_rfl
theorem j2 : (mapsRowed Tryz.prog : Bool) = true := by kernel_rfl
theorem j3 : (Tryz.f3.params.all (Tryz.prog.readableRec ·) : Bool) = true := by kernel_rfl
theorem j4 : (namedTie Tryz.prog Rows.keapNamesRow.named Rows.keapNamesSpec.vars : Bool) = true := by kernel_rfl
theorem j5 : ((Rows.keapNamesRow.stops == []) : Bool) = true := by kernel_rfl
theorem j6 : ((Tryz.prog.stops == []) : Bool) = true := by kernel_rfl
theorem j7 : ((Rows.keapNamesRow.knobs == []) : Bool) = true := by kernel_rfl
theorem j8 : ((Tryz.prog.stopKnobs == []) : Bool) = true := by kernel_rfl
theorem j9 : ((Rows.keapNamesRow.inPlace == Tryz.prog.inPlace 3) : Bool) = true := by kernel_rfl
theorem j10 : ((Rows.keapNamesRow.unfollowed == Tryz.prog.unfollowed 3) : Bool) = true := by kernel_rfl
theorem j11 : ((Rows.keapNamesRow.recurses == Tryz.prog.recurses 3) : Bool) = true := by kernel_rfl
theorem j12 : ((Rows.keapNamesRow.named == Tryz.prog.varsNamed 3) : Bool) = true := by kernel_rfl
theorem j13 : ((Rows.keapNamesRow.maps == (Tryz.f3.params.toList ++ Rows.keapNamesSpec.plain.varTypes Tryz.prog).any (Tryz.prog.mapsRec ·)) : Bool) = true := by kernel_rfl
theorem j14 : ((Rows.keapNamesRow.ifaces == (Tryz.f3.params.toList ++ Rows.keapNamesSpec.plain.varTypes Tryz.prog).any (Tryz.prog.ifacesRec ·)) : Bool) = true := by kernel_rfl
theorem j15 : ((Rows.keapNamesRow.mapsOut == Tryz.prog.mapsAmong Tryz.f3.resultTypes.toList) : Bool) = true := by kernel_rfl
theorem j16 : ((Rows.keapNamesRow.loops == (Tryz.f3.params.toList ++ Rows.keapNamesSpec.plain.varTypes Tryz.prog).any (Tryz.prog.loopsFrom ·)) : Bool) = true := by kernel_rfl
theorem j17 : ((Rows.keapNamesRow.wideKeys == (Tryz.f3.params.toList ++ Rows.keapNamesSpec.plain.varTypes Tryz.prog ++ Tryz.f3.resultTypes.toList).any (Tryz.prog.wideKeysFrom ·)) : Bool) = true := by kernel_rfl
theorem j18 : (Rows.keapNamesSpec.vars.all (Tryz.prog.varReadable ·) : Bool) = true := by kernel_rfl
theorem j19 : (Tryz.f3.resultTypes.all (fun t => Tryz.prog.readableRec t && decide (t < Tryz.prog.types.size)) : Bool) = true := by kernel_rfl
theorem j20 : ((Rows.keapNamesRow.ifacesOut == Tryz.f3.resultTypes.toList.any (Tryz.prog.ifacesRec ·)) : Bool) = true := by kernel_rfl
theorem j21 : ((Rows.keapNamesRow.loopsOut == Tryz.f3.resultTypes.toList.any (Tryz.prog.loopsFrom ·)) : Bool) = true := by kernel_rfl
theorem j22 : ((Rows.keapNamesRow.plainKeys == Tryz.prog.plainKeys) : Bool) = true := by kernel_rfl
theorem j23 : (Rows.keapNamesRow.shortTexts.isNone : Bool) = true := by kernel_rfl
theorem j24 : (Tryz.prog.stopsHeard : Bool) = true := by kernel_rfl
theorem j25 : (Tryz.prog.mayEnter : Bool) = true := by kernel_rfl
theorem j26 : ((Rows.keapNamesRow.lifted == Tryz.prog.liftsFinal) : Bool) = true := by kernel_rfl
theorem j27 : ((Tryz.prog.make == some Rows.keapNamesRow.make) : Bool) = true := by kernel_rfl
theorem j28 : ((Rows.keapNamesRow.kinds == (if Rows.keapNamesRow.domain.isEmpty then [] else Tryz.f3.params.toList.map fun t => match Tryz.prog.underlying t with | some (.int k) => some k | _ => none)) : Bool) = true := by kernel_rfl
theorem j29 : ((Rows.keapNamesRow.pinned == Rows.keapNamesRow.pinnedBy) : Bool) = true := by kernel_rfl
theorem j30 : ((Rows.keapNamesRow.veiled == (Tryz.f3.params.toList ++ Rows.keapNamesSpec.plain.varTypes Tryz.prog ++ Tryz.f3.resultTypes.toList).any (Tryz.prog.veiledRec ·)) : Bool) = true := by kernel_rfl
theorem j31 : (Rows.keapNamesRow.veiledFits Tryz.prog Tryz.f3.params.toList (Tryz.f3.params.toList ++ Rows.keapNamesSpec.plain.varTypes Tryz.prog ++ Tryz.f3.resultTypes.toList) : Bool) = true := by kernel_rfl
set_option maxRecDepth 100000 in
theorem facts : joinedFacts Tryz.prog 3 Tryz.f3 Rows.keapNamesSpec Rows.keapNamesRow = true := by
  unfold joinedFacts
  exact ba (ba (ba (ba (ba (ba (ba (ba (ba (ba (ba (ba (ba (ba (ba (ba (ba (ba (ba (ba (ba (ba (ba (ba (ba (ba (ba (ba (ba (ba (ba (j0) j1) j2) j3) j4) j5) j6) j7) j8) j9) j10) j11) j12) j13) j14) j15) j16) j17) j18) j19) j20) j21) j22) j23) j24) j25) j26) j27) j28) j29) j30) j31
theorem named : Tryz.prog.funcNamed "glebe/glebelaw22.KeapNames" = some 3 := by kernel_rfl
theorem inst : Tryz.f3.isInstance Tryz.prog Rows.keapNamesRow.origin Rows.keapNamesRow.targs := of_decide_eq_true (by kernel_rfl)
theorem wrap : Tryz.f3.isWrapper Tryz.prog Rows.keapNamesRow.wrapper Rows.keapNamesRow.mainSum := by unfold Func.isWrapper; first | (rw [if_pos (by decide +kernel)]; kernel_rfl) | (rw [if_neg (by decide +kernel)]; exact ⟨rfl, rfl⟩)
theorem over : Rows.keapNamesRow.holds Tryz.pinned (OpenSpec.ofChange Rows.keapNamesSpec) :=
  OpenClaim.holds_of_wide 3 Tryz.f3 rfl rfl rfl rfl rfl rfl rfl ⟨rfl, rfl, rfl, rfl, rfl⟩ rfl rfl rfl rfl rfl named Tryz.func3 facts
    inst wrap
    (fun os started H enc _ => lifted os started H enc)
theorem wfbt : Rows.keapNamesRow.wfByText (OpenSpec.ofChange Rows.keapNamesSpec) = true := by kernel_rfl
theorem main : Tryz.prog.mainIs = some ((true, "0df19e5df17dee7e9543839f4940e04c9c5d963fb960bb4120c90335f707ac24").1, (true, "0df19e5df17dee7e9543839f4940e04c9c5d963fb960bb4120c90335f707ac24").2.toList) := by kernel_rfl
theorem looks : true = Tryz.prog.looks [] := by kernel_rfl
theorem goes : false = Rows.keapNamesRow.goesBy Tryz.prog := by kernel_rfl
theorem stand : (Tryz.f3.params.toList.all fun u => !Tryz.prog.wantsStandIn u) = true := by kernel_rfl
theorem proved : Rows.KeapNamesSaid := over
end Go.Proofs.YtcccapeaeehjiaaGreatDoor.keapNames
namespace Go.Proofs.YtcccapeaeehjiaaGreatDoor
/-- The row, under a short name, for the claim. -/
theorem keapNames_holds : Rows.KeapNamesCardSaid :=
  Claim7.holds_tied_plain_at .later [] [.data, .data, .data, .data, .pinned] true (true, "0df19e5df17dee7e9543839f4940e04c9c5d963fb960bb4120c90335f707ac24") true
    keapNames.proved (fun _ h => by cases h) keapNames.wfbt (fun _ h => by cases h) keapNames_row_tie rfl ⟨rfl, rfl⟩ keapNames.main rfl
    (fun f fn hf hfn => by
      obtain rfl : f = 3 := Option.some.inj (keapNames.named.symm.trans hf) |>.symm
      obtain rfl : fn = Tryz.f3 := (Option.some.inj (Tryz.func3.symm.trans hfn)).symm
      exact ⟨keapNames.looks, fun j t ht => by
        have hm : t ∈ Tryz.f3.params.toList := by simpa using Array.mem_of_getElem? ht
        exact (show Tryz.prog.wantsStandIn t = false by simpa using List.all_eq_true.1 keapNames.stand t hm)⟩)
    keapNames.goes
#print axioms keapNames_holds
end Go.Proofs.YtcccapeaeehjiaaGreatDoor
