/- Cases of the statement, each reckoned. -/
import Derived.Test.YtcccapeaeehjiaaGreatDoorAMn0a
namespace Go.Proofs.YtcccapeaeehjiaaGreatDoor.AM
open Go Go.Proofs Go.RowKit
set_option maxRecDepth 1000000
set_option linter.unusedVariables false
set_option linter.unusedSimpArgs false
def n6_0 : MK := ⟨21, [.c (.sl 10 0 18 1)], 13, [⟨10, 5, true, 1, .bs [123, 34, 68, 104, 99, 112, 52, 34, 58, 123, 34, 120, 34, 58, 123, 125, 125, 125]⟩], .t [.g [.i .i64 7, .i .i64 0, .s [], .sl 43 0 1 1, .sl 31 0 1 1, .i .i64 0], .g [.i .i64 0, .i .i64 0]], 45, [⟨31, 9, true, 1, .vs [.s [68, 104, 99, 112, 52]]⟩, ⟨37, 9, true, 1, .vs [.s [120]]⟩, ⟨41, 50, true, 6, .vs [.i .i64 7, .i .i64 0, .s [], .sn, .sn, .i .i64 14]⟩, ⟨43, 50, true, 6, .vs [.i .i64 7, .i .i64 0, .s [], .sl 41 0 1 1, .sl 37 0 1 1, .i .i64 9]⟩]⟩
theorem n6_0_m : MemCall Tryz.prog tabs n6_0 := mem_of ok0 (fun wv => by kernel_rfl)
theorem n6_0_ok : Okk n6_0 := okk n6_0_m (by kernel_rfl)
def n6_1 : MK := ⟨10, [.c (.sl 10 0 18 1)], 11, [⟨10, 5, true, 1, .bs [123, 34, 68, 104, 99, 112, 52, 34, 58, 123, 34, 120, 34, 58, 123, 125, 125, 125]⟩], .t [.g [.sn, .sn, .sn, .sn], .g [.i .i64 1, .i .i64 14]], 58, []⟩
theorem n6_1_m : MemCall Tryz.prog tabs n6_1 := mem_of (okc n6_0_ok (ok0)) (fun wv => by kernel_rfl)
theorem n6_1_ok : Okk n6_1 := okk n6_1_m (by kernel_rfl)
theorem knN6 (a : Int) (h : a % 256 % 18 = 6) : FlatCallG tabs Tryz.prog 4 [.int .i64 a] (.bool true) := top (l := [n6_1, n6_0]) (okc n6_1_ok (okc n6_0_ok (ok0))) (by decide) h (fun mx => by kernel_rfl)
def n7_0 : MK := ⟨21, [.c (.sl 10 0 24 1)], 13, [⟨10, 5, true, 1, .bs [123, 34, 68, 104, 99, 112, 52, 34, 58, 123, 34, 115, 117, 98, 110, 101, 116, 52, 34, 58, 123, 125, 125, 125]⟩], .t [.g [.i .i64 7, .i .i64 0, .s [], .sl 55 0 1 1, .sl 31 0 1 1, .i .i64 0], .g [.i .i64 0, .i .i64 0]], 57, [⟨31, 9, true, 1, .vs [.s [68, 104, 99, 112, 52]]⟩, ⟨49, 9, true, 1, .vs [.s [115, 117, 98, 110, 101, 116, 52]]⟩, ⟨53, 50, true, 6, .vs [.i .i64 7, .i .i64 0, .s [], .sn, .sn, .i .i64 20]⟩, ⟨55, 50, true, 6, .vs [.i .i64 7, .i .i64 0, .s [], .sl 53 0 1 1, .sl 49 0 1 1, .i .i64 9]⟩]⟩
theorem n7_0_m : MemCall Tryz.prog tabs n7_0 := mem_of ok0 (fun wv => by kernel_rfl)
theorem n7_0_ok : Okk n7_0 := okk n7_0_m (by kernel_rfl)
def n7_1 : MK := ⟨10, [.c (.sl 10 0 24 1)], 11, [⟨10, 5, true, 1, .bs [123, 34, 68, 104, 99, 112, 52, 34, 58, 123, 34, 115, 117, 98, 110, 101, 116, 52, 34, 58, 123, 125, 125, 125]⟩], .t [.g [.sn, .sn, .sn, .sn], .g [.i .i64 1, .i .i64 20]], 71, []⟩
theorem n7_1_m : MemCall Tryz.prog tabs n7_1 := mem_of (okc n7_0_ok (ok0)) (fun wv => by kernel_rfl)
theorem n7_1_ok : Okk n7_1 := okk n7_1_m (by kernel_rfl)
theorem knN7 (a : Int) (h : a % 256 % 18 = 7) : FlatCallG tabs Tryz.prog 4 [.int .i64 a] (.bool true) := top (l := [n7_1, n7_0]) (okc n7_1_ok (okc n7_0_ok (ok0))) (by decide) h (fun mx => by kernel_rfl)
def n8_0 : MK := ⟨21, [.c (.sl 10 0 26 1)], 13, [⟨10, 5, true, 1, .bs [123, 34, 68, 104, 99, 112, 52, 34, 58, 123, 34, 115, 117, 98, 110, 101, 116, 52, 34, 58, 91, 123, 125, 93, 125, 125]⟩], .t [.g [.i .i64 7, .i .i64 0, .s [], .sl 59 0 1 1, .sl 31 0 1 1, .i .i64 0], .g [.i .i64 0, .i .i64 0]], 61, [⟨31, 9, true, 1, .vs [.s [68, 104, 99, 112, 52]]⟩, ⟨49, 9, true, 1, .vs [.s [115, 117, 98, 110, 101, 116, 52]]⟩, ⟨55, 50, true, 6, .vs [.i .i64 7, .i .i64 0, .s [], .sn, .sn, .i .i64 21]⟩, ⟨57, 50, true, 6, .vs [.i .i64 6, .i .i64 0, .s [], .sl 55 0 1 1, .sn, .i .i64 20]⟩, ⟨59, 50, true, 6, .vs [.i .i64 7, .i .i64 0, .s [], .sl 57 0 1 1, .sl 49 0 1 1, .i .i64 9]⟩]⟩
theorem n8_0_m : MemCall Tryz.prog tabs n8_0 := mem_of ok0 (fun wv => by kernel_rfl)
theorem n8_0_ok : Okk n8_0 := okk n8_0_m (by kernel_rfl)
def n8_1 : MK := ⟨10, [.c (.sl 10 0 26 1)], 11, [⟨10, 5, true, 1, .bs [123, 34, 68, 104, 99, 112, 52, 34, 58, 123, 34, 115, 117, 98, 110, 101, 116, 52, 34, 58, 91, 123, 125, 93, 125, 125]⟩], .t [.g [.sn, .sn, .sn, .sn], .g [.i .i64 1, .i .i64 21]], 86, []⟩
theorem n8_1_m : MemCall Tryz.prog tabs n8_1 := mem_of (okc n8_0_ok (ok0)) (fun wv => by kernel_rfl)
theorem n8_1_ok : Okk n8_1 := okk n8_1_m (by kernel_rfl)
theorem knN8 (a : Int) (h : a % 256 % 18 = 8) : FlatCallG tabs Tryz.prog 4 [.int .i64 a] (.bool true) := top (l := [n8_1, n8_0]) (okc n8_1_ok (okc n8_0_ok (ok0))) (by decide) h (fun mx => by kernel_rfl)
def n9_0 : MK := ⟨21, [.c (.sl 10 0 41 1)], 13, [⟨10, 5, true, 1, .bs [123, 34, 68, 104, 99, 112, 52, 34, 58, 123, 34, 115, 117, 98, 110, 101, 116, 52, 34, 58, 91, 123, 34, 115, 117, 98, 110, 101, 116, 34, 58, 34, 58, 58, 47, 48, 34, 125, 93, 125, 125]⟩], .t [.g [.i .i64 7, .i .i64 0, .s [], .sl 85 0 1 1, .sl 31 0 1 1, .i .i64 0], .g [.i .i64 0, .i .i64 0]], 87, [⟨31, 9, true, 1, .vs [.s [68, 104, 99, 112, 52]]⟩, ⟨49, 9, true, 1, .vs [.s [115, 117, 98, 110, 101, 116, 52]]⟩, ⟨67, 9, true, 1, .vs [.s [115, 117, 98, 110, 101, 116]]⟩, ⟨79, 50, true, 6, .vs [.i .i64 5, .i .i64 0, .s [58, 58, 47, 48], .sn, .sn, .i .i64 31]⟩, ⟨81, 50, true, 6, .vs [.i .i64 7, .i .i64 0, .s [], .sl 79 0 1 1, .sl 67 0 1 1, .i .i64 21]⟩, ⟨83, 50, true, 6, .vs [.i .i64 6, .i .i64 0, .s [], .sl 81 0 1 1, .sn, .i .i64 20]⟩, ⟨85, 50, true, 6, .vs [.i .i64 7, .i .i64 0, .s [], .sl 83 0 1 1, .sl 49 0 1 1, .i .i64 9]⟩]⟩
theorem n9_0_m : MemCall Tryz.prog tabs n9_0 := mem_of ok0 (fun wv => by kernel_rfl)
theorem n9_0_ok : Okk n9_0 := okk n9_0_m (by kernel_rfl)
def n9_1 : MK := ⟨10, [.c (.sl 10 0 41 1)], 11, [⟨10, 5, true, 1, .bs [123, 34, 68, 104, 99, 112, 52, 34, 58, 123, 34, 115, 117, 98, 110, 101, 116, 52, 34, 58, 91, 123, 34, 115, 117, 98, 110, 101, 116, 34, 58, 34, 58, 58, 47, 48, 34, 125, 93, 125, 125]⟩], .t [.g [.sn, .sn, .sn, .sn], .g [.i .i64 1, .i .i64 31]], 146, []⟩
theorem n9_1_m : MemCall Tryz.prog tabs n9_1 := mem_of (okc n9_0_ok (ok0)) (fun wv => by kernel_rfl)
theorem n9_1_ok : Okk n9_1 := okk n9_1_m (by kernel_rfl)
theorem knN9 (a : Int) (h : a % 256 % 18 = 9) : FlatCallG tabs Tryz.prog 4 [.int .i64 a] (.bool true) := top (l := [n9_1, n9_0]) (okc n9_1_ok (okc n9_0_ok (ok0))) (by decide) h (fun mx => by kernel_rfl)
def n10_0 : MK := ⟨21, [.c (.sl 10 0 41 1)], 13, [⟨10, 5, true, 1, .bs [123, 34, 68, 104, 99, 112, 54, 34, 58, 123, 34, 115, 117, 98, 110, 101, 116, 54, 34, 58, 91, 123, 34, 115, 117, 98, 110, 101, 116, 34, 58, 34, 58, 58, 47, 48, 34, 125, 93, 125, 125]⟩], .t [.g [.i .i64 7, .i .i64 0, .s [], .sl 85 0 1 1, .sl 31 0 1 1, .i .i64 0], .g [.i .i64 0, .i .i64 0]], 87, [⟨31, 9, true, 1, .vs [.s [68, 104, 99, 112, 54]]⟩, ⟨49, 9, true, 1, .vs [.s [115, 117, 98, 110, 101, 116, 54]]⟩, ⟨67, 9, true, 1, .vs [.s [115, 117, 98, 110, 101, 116]]⟩, ⟨79, 50, true, 6, .vs [.i .i64 5, .i .i64 0, .s [58, 58, 47, 48], .sn, .sn, .i .i64 31]⟩, ⟨81, 50, true, 6, .vs [.i .i64 7, .i .i64 0, .s [], .sl 79 0 1 1, .sl 67 0 1 1, .i .i64 21]⟩, ⟨83, 50, true, 6, .vs [.i .i64 6, .i .i64 0, .s [], .sl 81 0 1 1, .sn, .i .i64 20]⟩, ⟨85, 50, true, 6, .vs [.i .i64 7, .i .i64 0, .s [], .sl 83 0 1 1, .sl 49 0 1 1, .i .i64 9]⟩]⟩
theorem n10_0_m : MemCall Tryz.prog tabs n10_0 := mem_of ok0 (fun wv => by kernel_rfl)
theorem n10_0_ok : Okk n10_0 := okk n10_0_m (by kernel_rfl)
def n10_1 : MK := ⟨10, [.c (.sl 10 0 41 1)], 11, [⟨10, 5, true, 1, .bs [123, 34, 68, 104, 99, 112, 54, 34, 58, 123, 34, 115, 117, 98, 110, 101, 116, 54, 34, 58, 91, 123, 34, 115, 117, 98, 110, 101, 116, 34, 58, 34, 58, 58, 47, 48, 34, 125, 93, 125, 125]⟩], .t [.g [.sn, .sl 178 0 1 1, .sn, .sn], .g [.i .i64 0, .i .i64 0]], 179, [⟨178, 32, true, 8, .vs [.i .i64 6, .i .u64 0, .i .u64 0, .i .i64 0, .s [], .i .u64 0, .sn, .sn]⟩]⟩
theorem n10_1_m : MemCall Tryz.prog tabs n10_1 := mem_of (okc n10_0_ok (ok0)) (fun wv => by kernel_rfl)
theorem n10_1_ok : Okk n10_1 := okk n10_1_m (by kernel_rfl)
theorem knN10 (a : Int) (h : a % 256 % 18 = 10) : FlatCallG tabs Tryz.prog 4 [.int .i64 a] (.bool true) := top (l := [n10_1, n10_0]) (okc n10_1_ok (okc n10_0_ok (ok0))) (by decide) h (fun mx => by kernel_rfl)
def n11_0 : MK := ⟨21, [.c (.sl 10 0 40 1)], 13, [⟨10, 5, true, 1, .bs [123, 34, 68, 104, 99, 112, 52, 34, 58, 123, 34, 111, 112, 116, 105, 111, 110, 45, 100, 97, 116, 97, 34, 58, 91, 123, 34, 100, 97, 116, 97, 34, 58, 34, 97, 34, 125, 93, 125, 125]⟩], .t [.g [.i .i64 7, .i .i64 0, .s [], .sl 83 0 1 1, .sl 31 0 1 1, .i .i64 0], .g [.i .i64 0, .i .i64 0]], 85, [⟨31, 9, true, 1, .vs [.s [68, 104, 99, 112, 52]]⟩, ⟨57, 9, true, 1, .vs [.s [111, 112, 116, 105, 111, 110, 45, 100, 97, 116, 97]]⟩, ⟨71, 9, true, 1, .vs [.s [100, 97, 116, 97]]⟩, ⟨77, 50, true, 6, .vs [.i .i64 5, .i .i64 0, .s [97], .sn, .sn, .i .i64 33]⟩, ⟨79, 50, true, 6, .vs [.i .i64 7, .i .i64 0, .s [], .sl 77 0 1 1, .sl 71 0 1 1, .i .i64 25]⟩, ⟨81, 50, true, 6, .vs [.i .i64 6, .i .i64 0, .s [], .sl 79 0 1 1, .sn, .i .i64 24]⟩, ⟨83, 50, true, 6, .vs [.i .i64 7, .i .i64 0, .s [], .sl 81 0 1 1, .sl 57 0 1 1, .i .i64 9]⟩]⟩
theorem n11_0_m : MemCall Tryz.prog tabs n11_0 := mem_of ok0 (fun wv => by kernel_rfl)
theorem n11_0_ok : Okk n11_0 := okk n11_0_m (by kernel_rfl)
def n11_1 : MK := ⟨10, [.c (.sl 10 0 40 1)], 11, [⟨10, 5, true, 1, .bs [123, 34, 68, 104, 99, 112, 52, 34, 58, 123, 34, 111, 112, 116, 105, 111, 110, 45, 100, 97, 116, 97, 34, 58, 91, 123, 34, 100, 97, 116, 97, 34, 58, 34, 97, 34, 125, 93, 125, 125]⟩], .t [.g [.sn, .sn, .sn, .sn], .g [.i .i64 1, .i .i64 25]], 123, []⟩
theorem n11_1_m : MemCall Tryz.prog tabs n11_1 := mem_of (okc n11_0_ok (ok0)) (fun wv => by kernel_rfl)
theorem n11_1_ok : Okk n11_1 := okk n11_1_m (by kernel_rfl)
theorem knN11 (a : Int) (h : a % 256 % 18 = 11) : FlatCallG tabs Tryz.prog 4 [.int .i64 a] (.bool true) := top (l := [n11_1, n11_0]) (okc n11_1_ok (okc n11_0_ok (ok0))) (by decide) h (fun mx => by kernel_rfl)
end Go.Proofs.YtcccapeaeehjiaaGreatDoor.AM
