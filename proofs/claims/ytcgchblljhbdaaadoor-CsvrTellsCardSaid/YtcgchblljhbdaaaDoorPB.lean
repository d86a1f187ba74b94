/- Strings and their bytes: plain lemmas. -/
import Derived.Test.YtcgchblljhbdaaaDoorPL
import Derived.Lib.LazyBuf
namespace Go.Proofs.YtcgchblljhbdaaaDoor.PB
open Go Go.RowKit Go.Proofs.YtcgchblljhbdaaaDoorW.PrintWords Go.Proofs.YtcgchblljhbdaaaDoor.PL
set_option linter.unusedSimpArgs false
set_option linter.unusedVariables false
theorem wrap_nn (a b : Nat) (h : a + b < 4611686018427387904) : wrap64 ((a : Int) + (b : Int)) = ((a + b : Nat) : Int) := by unfold wrap64; omega
theorem wrap_pred (a : Nat) (h0 : 0 < a) (h : a < 4611686018427387904) : wrap64 ((a : Int) - 1) = ((a - 1 : Nat) : Int) := by unfold wrap64; omega
theorem size_strOf (l : List Int) : (strOfNums l).size = l.length := by simp [strOfNums, ByteArray.size]
theorem rd_mem (b : List Int) (n : Nat) (h : n < b.length) : rd b n ∈ b := by
  simp [rd, List.getD_eq_getElem?_getD, List.getElem?_eq_getElem h]
theorem bytesOf_byte (s : ByteArray) : ∀ x ∈ bytesOf s, 0 ≤ x ∧ x < 256 := by
  intro x hx
  unfold bytesOf at hx
  obtain ⟨b, _, rfl⟩ := List.mem_map.1 hx
  have := b.toNat_lt
  omega
theorem bt_rd (s : ByteArray) (n : Nat) : bt s (n : Int) = rd (bytesOf s) (n : Int) := (rd_bytesOf s _).symm
theorem len_bytes (s : ByteArray) : (bytesOf s).length = s.size := bytesOf_length s
theorem bytesOf_strOf (l : List Int) (h : ∀ x ∈ l, 0 ≤ x ∧ x < 256) : bytesOf (strOfNums l) = l := by
  unfold bytesOf strOfNums
  rw [List.map_map]
  conv => rhs; rw [← List.map_id l]
  apply List.map_congr_left
  intro x hx
  have := h x hx
  show (((UInt8.ofNat x.toNat).toNat : Nat) : Int) = x
  rw [UInt8.toNat_ofNat']
  omega
theorem strOf_bytesOf (s : ByteArray) : strOfNums (bytesOf s) = s := by
  unfold bytesOf strOfNums
  rw [List.map_map]
  have : (s.data.toList.map ((fun n : Int => UInt8.ofNat n.toNat) ∘ fun b : UInt8 => (b.toNat : Int))) = s.data.toList := by
    conv => rhs; rw [← List.map_id s.data.toList]
    apply List.map_congr_left
    intro x _
    show UInt8.ofNat ((x.toNat : Int)).toNat = x
    simp
  rw [this]
theorem bytesOf_app (a b : ByteArray) : bytesOf (a ++ b) = bytesOf a ++ bytesOf b := by
  simp [bytesOf]
theorem bytesOf_extract (s : ByteArray) (a b : Nat) : bytesOf (s.extract a b) = ((bytesOf s).take b).drop a := by
  unfold bytesOf
  rw [← List.map_take, ← List.map_drop, Lib.extract_data]
  simp [List.drop_take]
theorem ext {a b : ByteArray} (h : bytesOf a = bytesOf b) : a = b := by
  rw [← strOf_bytesOf a, h, strOf_bytesOf]
theorem strOf_app (a b : List Int) : strOfNums (a ++ b) = strOfNums a ++ strOfNums b := by
  have h1 : (strOfNums a ++ strOfNums b).data = (strOfNums a).data ++ (strOfNums b).data := by simp
  have h2 : strOfNums (a ++ b) = ⟨(strOfNums a).data ++ (strOfNums b).data⟩ := by simp [strOfNums]
  rw [h2, ← h1]
theorem extract_strOf (s : ByteArray) (a b : Nat) : s.extract a b = strOfNums (((bytesOf s).take b).drop a) := by
  rw [← bytesOf_extract, strOf_bytesOf]
theorem strOf_extract (l : List Int) (h : ∀ x ∈ l, 0 ≤ x ∧ x < 256) (a b : Nat) : (strOfNums l).extract a b = strOfNums ((l.take b).drop a) := by
  rw [extract_strOf, bytesOf_strOf l h]
theorem toList_eq (a b : ByteArray) : (a.toList = b.toList) ↔ a = b := by
  constructor
  · intro h
    rw [Lib.toList_data, Lib.toList_data] at h
    cases a; cases b
    simp at h
    rw [h]
  · rintro rfl; rfl
end Go.Proofs.YtcgchblljhbdaaaDoor.PB
