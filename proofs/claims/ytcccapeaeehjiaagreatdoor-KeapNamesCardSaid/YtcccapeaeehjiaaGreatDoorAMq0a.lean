/- What the statement looks at first. -/
import Derived.Test.YtcccapeaeehjiaaGreatDoorAMq0
namespace Go.Proofs.YtcccapeaeehjiaaGreatDoor.AM
open Go Go.Proofs Go.RowKit
set_option maxRecDepth 1000000
set_option linter.unusedVariables false
set_option linter.unusedSimpArgs false
def aw0 : MK := ⟨7, [.c (.sl 8 0 70 1)], 11, [⟨8, 5, true, 1, .bs [123, 34, 68, 104, 99, 112, 54, 34, 58, 123, 34, 115, 117, 98, 110, 101, 116, 54, 34, 58, 91, 123, 34, 115, 117, 98, 110, 101, 116, 34, 58, 34, 50, 48, 48, 49, 58, 100, 98, 56, 58, 58, 47, 54, 52, 34, 44, 34, 118, 97, 108, 105, 100, 45, 108, 105, 102, 101, 116, 105, 109, 101, 34, 58, 54, 48, 125, 93, 125, 125]⟩], .t [.g [.i .i64 7, .i .i64 0, .s [], .sl 230 0 1 1, .sl 39 0 1 1, .i .i64 0], .g [.i .i64 0, .i .i64 0]], 232, [⟨39, 9, true, 1, .vs [.s [68, 104, 99, 112, 54]]⟩, ⟨71, 9, true, 1, .vs [.s [115, 117, 98, 110, 101, 116, 54]]⟩, ⟨216, 9, true, 1, .vs [.s [115, 117, 98, 110, 101, 116], .s [118, 97, 108, 105, 100, 45, 108, 105, 102, 101, 116, 105, 109, 101]]⟩, ⟨221, 50, true, 6, .vs [.i .i64 5, .i .i64 0, .s [50, 48, 48, 49, 58, 100, 98, 56, 58, 58, 47, 54, 52], .sn, .sn, .i .i64 31, .i .i64 4, .i .i64 60, .s [], .sn, .sn, .i .i64 64]⟩, ⟨224, 50, true, 6, .vs [.i .i64 7, .i .i64 0, .s [], .sl 221 0 2 1, .sl 216 0 2 1, .i .i64 21]⟩, ⟨227, 50, true, 6, .vs [.i .i64 6, .i .i64 0, .s [], .sl 224 0 1 1, .sn, .i .i64 20]⟩, ⟨230, 50, true, 6, .vs [.i .i64 7, .i .i64 0, .s [], .sl 227 0 1 1, .sl 71 0 1 1, .i .i64 9]⟩]⟩
theorem aw0_ok : MemCall Tryz.prog tabs aw0 := mem_of (fun wv => by kernel_rfl)
def aw1 : MK := ⟨6, [.g [.sn, .sn, .sn, .sn]], 332, [], .o (.c (.sl 357 0 3 1)), 358, [⟨357, 5, true, 1, .bs [123, 125, 10]⟩]⟩
theorem aw1_ok : MemCall Tryz.prog tabs aw1 := mem_of (fun wv => by kernel_rfl)
def aw2 : MK := ⟨6, [.g [.sn, .sl 311 0 1 1, .sn, .sn]], 358, [⟨311, 32, true, 8, .vs [.i .i64 6, .i .u64 2306139568115548160, .i .u64 0, .i .i64 64, .s [], .i .u64 60, .sn, .sn]⟩], .o (.c (.sl 596 0 124 1)), 597, [⟨596, 5, true, 1, .bs [123, 10, 32, 32, 34, 68, 104, 99, 112, 54, 34, 58, 32, 123, 10, 32, 32, 32, 32, 34, 115, 117, 98, 110, 101, 116, 54, 34, 58, 32, 91, 10, 32, 32, 32, 32, 32, 32, 123, 10, 32, 32, 32, 32, 32, 32, 32, 32, 34, 115, 117, 98, 110, 101, 116, 34, 58, 32, 34, 50, 48, 48, 49, 58, 100, 98, 56, 58, 58, 47, 54, 52, 34, 44, 10, 32, 32, 32, 32, 32, 32, 32, 32, 34, 118, 97, 108, 105, 100, 45, 108, 105, 102, 101, 116, 105, 109, 101, 34, 58, 32, 54, 48, 10, 32, 32, 32, 32, 32, 32, 125, 10, 32, 32, 32, 32, 93, 10, 32, 32, 125, 10, 125, 10]⟩]⟩
theorem aw2_ok : MemCall Tryz.prog tabs aw2 := mem_of (fun wv => by kernel_rfl)
theorem awake_ok : FlatCallG tabs Tryz.prog 9 (argOf none) (.bool true) := flatG_by (fun mx => fcall_ok (rounds := 10000) (gTab_ok tabs mx ng) fm (orT_ok (memT_ok rfl (fun t ht => tabs_self t ht) (three aw0_ok aw1_ok aw2_ok (by kernel_rfl))) (hooksA_ok _)) 100) 8 (by kernel_rfl) (by kernel_rfl) (fun mx => by kernel_rfl)
def known : List Known := [⟨9, none, .bool true⟩]
theorem known_ok : ∀ k ∈ known, FlatCallG tabs Tryz.prog k.f (argOf k.s) k.v := by
  intro k hk
  simp only [known, List.mem_cons, List.not_mem_nil, or_false] at hk
  subst hk
  exact awake_ok
theorem top {x y z : MK} {a b0 b1 b2 b3 b4 : Int} (hm : ∀ k ∈ [x, y, z], MemCall Tryz.prog tabs k ∧ k.fine = true ∧ k.nx ≤ k.n') (h0 : a / 2 ^ 0 % 2 = b0) (h1 : a / 2 ^ 1 % 2 = b1) (h2 : a / 2 ^ 2 % 2 = b2) (h3 : a / 2 ^ 3 % 2 = b3) (h4 : a / 2 ^ 4 % 2 = b4)
    (e : ∀ mx, (fcall Tryz.prog (bitGv tabs a [b0, b1, b2, b3, b4] mx) (orT (memT tabs [x, y, z]) (orT (knownG tabs known) hooksA)) 10000 100 3 [.chan (some 0)] 8 (hTab tabs)).map (fun r => r.1) = some (.bool true)) : FlatCallG tabs Tryz.prog 3 [.int .i64 a] (.bool true) :=
  call_byG (gl := bitGv tabs a [b0, b1, b2, b3, b4]) (fun mx => fcall_ok (bit_ok tabs ng a _ mx (bits5 h0 h1 h2 h3 h4)) fm (orT_ok (memT_ok rfl (fun t ht => tabs_self t ht) hm) (orT_ok (knownG_ok rfl rfl (by kernel_rfl) known_ok) (hooksA_ok _))) 100) (fun _ => rfl) (fun _ => rfl) 8 (by kernel_rfl) (fun mx => bit_arg tabs a _ mx) rfl e
end Go.Proofs.YtcccapeaeehjiaaGreatDoor.AM
