/- Cases of the statement, each reckoned. -/
import Derived.Test.YtcccapeaeehjiaaGreatDoorAMn0a
namespace Go.Proofs.YtcccapeaeehjiaaGreatDoor.AM
open Go Go.Proofs Go.RowKit
set_option maxRecDepth 1000000
set_option linter.unusedVariables false
set_option linter.unusedSimpArgs false
def n0_0 : MK := ⟨21, [.c (.sl 10 0 2 1)], 13, [⟨10, 5, true, 1, .bs [123, 125]⟩], .t [.g [.i .i64 7, .i .i64 0, .s [], .sn, .sn, .i .i64 0], .g [.i .i64 0, .i .i64 0]], 21, []⟩
theorem n0_0_m : MemCall Tryz.prog tabs n0_0 := mem_of ok0 (fun wv => by kernel_rfl)
theorem n0_0_ok : Okk n0_0 := okk n0_0_m (by kernel_rfl)
def n0_1 : MK := ⟨10, [.c (.sl 10 0 2 1)], 11, [⟨10, 5, true, 1, .bs [123, 125]⟩], .t [.g [.sn, .sn, .sn, .sn], .g [.i .i64 0, .i .i64 0]], 36, []⟩
theorem n0_1_m : MemCall Tryz.prog tabs n0_1 := mem_of (okc n0_0_ok (ok0)) (fun wv => by kernel_rfl)
theorem n0_1_ok : Okk n0_1 := okk n0_1_m (by kernel_rfl)
theorem knN0 (a : Int) (h : a % 256 % 18 = 0) : FlatCallG tabs Tryz.prog 4 [.int .i64 a] (.bool true) := top (l := [n0_1, n0_0]) (okc n0_1_ok (okc n0_0_ok (ok0))) (by decide) h (fun mx => by kernel_rfl)
def n1_0 : MK := ⟨21, [.c (.sl 10 0 2 1)], 13, [⟨10, 5, true, 1, .bs [91, 93]⟩], .t [.g [.i .i64 6, .i .i64 0, .s [], .sn, .sn, .i .i64 0], .g [.i .i64 0, .i .i64 0]], 21, []⟩
theorem n1_0_m : MemCall Tryz.prog tabs n1_0 := mem_of ok0 (fun wv => by kernel_rfl)
theorem n1_0_ok : Okk n1_0 := okk n1_0_m (by kernel_rfl)
def n1_1 : MK := ⟨10, [.c (.sl 10 0 2 1)], 11, [⟨10, 5, true, 1, .bs [91, 93]⟩], .t [.g [.sn, .sn, .sn, .sn], .g [.i .i64 1, .i .i64 0]], 27, []⟩
theorem n1_1_m : MemCall Tryz.prog tabs n1_1 := mem_of (okc n1_0_ok (ok0)) (fun wv => by kernel_rfl)
theorem n1_1_ok : Okk n1_1 := okk n1_1_m (by kernel_rfl)
theorem knN1 (a : Int) (h : a % 256 % 18 = 1) : FlatCallG tabs Tryz.prog 4 [.int .i64 a] (.bool true) := top (l := [n1_1, n1_0]) (okc n1_1_ok (okc n1_0_ok (ok0))) (by decide) h (fun mx => by kernel_rfl)
def n2_0 : MK := ⟨21, [.c (.sl 10 0 1 1)], 13, [⟨10, 5, true, 1, .vs [.i .u8 49]⟩], .t [.g [.i .i64 4, .i .i64 1, .s [], .sn, .sn, .i .i64 0], .g [.i .i64 0, .i .i64 0]], 22, []⟩
theorem n2_0_m : MemCall Tryz.prog tabs n2_0 := mem_of ok0 (fun wv => by kernel_rfl)
theorem n2_0_ok : Okk n2_0 := okk n2_0_m (by kernel_rfl)
def n2_1 : MK := ⟨10, [.c (.sl 10 0 1 1)], 11, [⟨10, 5, true, 1, .vs [.i .u8 49]⟩], .t [.g [.sn, .sn, .sn, .sn], .g [.i .i64 1, .i .i64 0]], 28, []⟩
theorem n2_1_m : MemCall Tryz.prog tabs n2_1 := mem_of (okc n2_0_ok (ok0)) (fun wv => by kernel_rfl)
theorem n2_1_ok : Okk n2_1 := okk n2_1_m (by kernel_rfl)
theorem knN2 (a : Int) (h : a % 256 % 18 = 2) : FlatCallG tabs Tryz.prog 4 [.int .i64 a] (.bool true) := top (l := [n2_1, n2_0]) (okc n2_1_ok (okc n2_0_ok (ok0))) (by decide) h (fun mx => by kernel_rfl)
def n3_0 : MK := ⟨21, [.c (.sl 10 0 7 1)], 13, [⟨10, 5, true, 1, .bs [123, 34, 97, 34, 58, 49, 125]⟩], .t [.g [.i .i64 7, .i .i64 0, .s [], .sl 28 0 1 1, .sl 23 0 1 1, .i .i64 0], .g [.i .i64 0, .i .i64 0]], 30, [⟨23, 9, true, 1, .vs [.s [97]]⟩, ⟨28, 50, true, 6, .vs [.i .i64 4, .i .i64 1, .s [], .sn, .sn, .i .i64 5]⟩]⟩
theorem n3_0_m : MemCall Tryz.prog tabs n3_0 := mem_of ok0 (fun wv => by kernel_rfl)
theorem n3_0_ok : Okk n3_0 := okk n3_0_m (by kernel_rfl)
def n3_1 : MK := ⟨10, [.c (.sl 10 0 7 1)], 11, [⟨10, 5, true, 1, .bs [123, 34, 97, 34, 58, 49, 125]⟩], .t [.g [.sn, .sn, .sn, .sn], .g [.i .i64 1, .i .i64 5]], 37, []⟩
theorem n3_1_m : MemCall Tryz.prog tabs n3_1 := mem_of (okc n3_0_ok (ok0)) (fun wv => by kernel_rfl)
theorem n3_1_ok : Okk n3_1 := okk n3_1_m (by kernel_rfl)
theorem knN3 (a : Int) (h : a % 256 % 18 = 3) : FlatCallG tabs Tryz.prog 4 [.int .i64 a] (.bool true) := top (l := [n3_1, n3_0]) (okc n3_1_ok (okc n3_0_ok (ok0))) (by decide) h (fun mx => by kernel_rfl)
def n4_0 : MK := ⟨21, [.c (.sl 10 0 11 1)], 13, [⟨10, 5, true, 1, .bs [123, 34, 68, 104, 99, 112, 52, 34, 58, 49, 125]⟩], .t [.g [.i .i64 7, .i .i64 0, .s [], .sl 36 0 1 1, .sl 31 0 1 1, .i .i64 0], .g [.i .i64 0, .i .i64 0]], 38, [⟨31, 9, true, 1, .vs [.s [68, 104, 99, 112, 52]]⟩, ⟨36, 50, true, 6, .vs [.i .i64 4, .i .i64 1, .s [], .sn, .sn, .i .i64 9]⟩]⟩
theorem n4_0_m : MemCall Tryz.prog tabs n4_0 := mem_of ok0 (fun wv => by kernel_rfl)
theorem n4_0_ok : Okk n4_0 := okk n4_0_m (by kernel_rfl)
def n4_1 : MK := ⟨10, [.c (.sl 10 0 11 1)], 11, [⟨10, 5, true, 1, .bs [123, 34, 68, 104, 99, 112, 52, 34, 58, 49, 125]⟩], .t [.g [.sn, .sn, .sn, .sn], .g [.i .i64 1, .i .i64 9]], 50, []⟩
theorem n4_1_m : MemCall Tryz.prog tabs n4_1 := mem_of (okc n4_0_ok (ok0)) (fun wv => by kernel_rfl)
theorem n4_1_ok : Okk n4_1 := okk n4_1_m (by kernel_rfl)
theorem knN4 (a : Int) (h : a % 256 % 18 = 4) : FlatCallG tabs Tryz.prog 4 [.int .i64 a] (.bool true) := top (l := [n4_1, n4_0]) (okc n4_1_ok (okc n4_0_ok (ok0))) (by decide) h (fun mx => by kernel_rfl)
def n5_0 : MK := ⟨21, [.c (.sl 10 0 12 1)], 13, [⟨10, 5, true, 1, .bs [123, 34, 68, 104, 99, 112, 52, 34, 58, 123, 125, 125]⟩], .t [.g [.i .i64 7, .i .i64 0, .s [], .sl 35 0 1 1, .sl 31 0 1 1, .i .i64 0], .g [.i .i64 0, .i .i64 0]], 37, [⟨31, 9, true, 1, .vs [.s [68, 104, 99, 112, 52]]⟩, ⟨35, 50, true, 6, .vs [.i .i64 7, .i .i64 0, .s [], .sn, .sn, .i .i64 9]⟩]⟩
theorem n5_0_m : MemCall Tryz.prog tabs n5_0 := mem_of ok0 (fun wv => by kernel_rfl)
theorem n5_0_ok : Okk n5_0 := okk n5_0_m (by kernel_rfl)
def n5_1 : MK := ⟨10, [.c (.sl 10 0 12 1)], 11, [⟨10, 5, true, 1, .bs [123, 34, 68, 104, 99, 112, 52, 34, 58, 123, 125, 125]⟩], .t [.g [.sn, .sn, .sn, .sn], .g [.i .i64 0, .i .i64 0]], 58, []⟩
theorem n5_1_m : MemCall Tryz.prog tabs n5_1 := mem_of (okc n5_0_ok (ok0)) (fun wv => by kernel_rfl)
theorem n5_1_ok : Okk n5_1 := okk n5_1_m (by kernel_rfl)
theorem knN5 (a : Int) (h : a % 256 % 18 = 5) : FlatCallG tabs Tryz.prog 4 [.int .i64 a] (.bool true) := top (l := [n5_1, n5_0]) (okc n5_1_ok (okc n5_0_ok (ok0))) (by decide) h (fun mx => by kernel_rfl)
end Go.Proofs.YtcccapeaeehjiaaGreatDoor.AM
