/- The calls that are answered out of contracts, with slices.Insert and strings.Index. -/
import Derived.Test.YtcccapeaeehjiaaGreatDoorAMhk2
import Derived.Test.YtcccapeaeehjiaaGreatDoorAM5
import Derived.Test.YtcccapeaeehjiaaGreatDoorAMiOpt
import Derived.Test.YtcccapeaeehjiaaGreatDoorAMiNet
import Derived.Test.YtcccapeaeehjiaaGreatDoorAMiHost
import Derived.Test.YtcccapeaeehjiaaGreatDoorAMiLease
import Derived.Test.YtcccapeaeehjiaaGreatDoorAMiRange
namespace Go.Proofs.YtcccapeaeehjiaaGreatDoor.AM
open Go Go.Proofs Go.Shelf Go.RowKit
set_option linter.unusedVariables false
theorem index_c : IndexC Tryz.prog 354 0 := fun s sub m w hs hm => Any.stringslite_Index { Tryz.laysM219 with } s sub m w hs hm
noncomputable def hooksB : SumT := orT (indexT 354 0) (orT (insT 131 39 3 32) (orT (insT 134 32 8 104) (orT (insT 140 34 5 48) (orT (insT 144 85 6 56) (orT (insT 222 37 6 48) (hooksA))))))
theorem hooksB_ok (gl : Gv) (hg : gl.g 0 = true) (hk : (gl.wv 1000).1 = .i64) : TOK Tryz.prog gl hooksB := orT_ok (indexT_ok hg hk index_c) (orT_ok (insOpt_ok gl) (orT_ok (insNet_ok gl) (orT_ok (insHost_ok gl) (orT_ok (insLease_ok gl) (orT_ok (insRange_ok gl) (hooksA_ok gl))))))
end Go.Proofs.YtcccapeaeehjiaaGreatDoor.AM
