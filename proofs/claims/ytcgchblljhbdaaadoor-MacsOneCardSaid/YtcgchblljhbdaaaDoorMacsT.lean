/- Names; a number's text as a hardware address; a text of twelve digits is the number they make. -/
import Derived.Test.YtcgchblljhbdaaaDoorMacsS
import Derived.Test.YtcgchblljhbdaaaDoorPB
namespace Go.Proofs.YtcgchblljhbdaaaDoor.MacsS
open Go Go.RowKit Go.Proofs.YtcgchblljhbdaaaDoorW.PrintWords Go.Proofs.YtcgchblljhbdaaaDoorW.PrintMore Go.Proofs.YtcgchblljhbdaaaDoor.PL Go.Proofs.YtcgchblljhbdaaaDoor.PB Go.Proofs.YtcgchblljhbdaaaDoor.M
set_option linter.unusedSimpArgs false
set_option linter.unusedVariables false
def isN (c : Int) : Bool := decide (97 ≤ c ∧ c ≤ 122 ∨ 48 ≤ c ∧ c ≤ 57 ∨ c = 45)
theorem nm {α : Type} (c : Int) (A B : α) : (if c < 97 then (if c < 48 then (if c = 45 then A else B) else (if c > 57 then (if c = 45 then A else B) else A)) else (if c > 122 then (if c < 48 then (if c = 45 then A else B) else (if c > 57 then (if c = 45 then A else B) else A)) else A)) = if isN c = true then A else B := by
  repeat' split
  all_goals first | rfl | (exfalso; simp only [isN, decide_eq_true_eq] at *; omega)
def nameV (s : ByteArray) (l : List Int) : Bool := if l.all isN = true then (if (s.size : Int) ≥ 1 then decide ((s.size : Int) ≤ 32) else false) else false
theorem name_run (s : ByteArray) (hs : s.size < 1048576) : ∀ (l : List Int) (n : Nat), (bytesOf s).drop n = l → n ≤ s.size →
    Ev (fun k => macs_Name.l0 k s (bytesOf s) ((bytesOf s).length : Int) (n : Int)) (nameV s l) := by
  have hL := len_bytes s
  intro l
  induction l with
  | nil =>
    intro n h hn
    have := dn h (by omega)
    refine Ev.step (f := fun _ => some _) (fun k => ?_) (Ev.now _)
    simp only [macs_Name.l0]
    rw [if_neg (by omega)]
    unfold nameV
    rw [if_pos (show ([] : List Int).all isN = true from rfl)]
    split <;> rfl
  | cons c l ih =>
    intro n h hn
    obtain ⟨h1, h2, h3, h4⟩ := dc h
    by_cases hc : isN c = true
    · refine Ev.step (f := fun k => macs_Name.l0 k s (bytesOf s) ((bytesOf s).length : Int) ((n + 1 : Nat) : Int)) (fun k => ?_) ?_
      · simp only [macs_Name.l0]
        rw [if_pos (by omega), if_pos (by omega), if_pos (by omega), h2, nm, if_pos hc, wrap_nat (by omega)]
      · have := ih (n + 1) h3 (by omega)
        unfold nameV at this ⊢
        rw [List.all_cons, hc, Bool.true_and]
        exact this
    · refine Ev.step (f := fun _ => some _) (fun k => ?_) (Ev.now _)
      simp only [macs_Name.l0]
      rw [if_pos (by omega), if_pos (by omega), if_pos (by omega), h2, nm, if_neg hc]
      unfold nameV
      rw [List.all_cons, Bool.eq_false_iff.2 hc, Bool.false_and, if_neg (by simp)]
theorem rname_run (s : ByteArray) (hs : s.size < 1048576) : ∀ (l : List Int) (n : Nat), (bytesOf s).drop n = l → n ≤ s.size →
    Ev (fun k => gleberef1_Name.l0 k s (n : Int)) (nameV s l) := by
  have hL := len_bytes s
  intro l
  induction l with
  | nil =>
    intro n h hn
    have := dn h (by omega)
    refine Ev.step (f := fun _ => some _) (fun k => ?_) (Ev.now _)
    simp only [gleberef1_Name.l0]
    rw [if_neg (by omega)]
    unfold nameV
    rw [if_pos (show ([] : List Int).all isN = true from rfl)]
    split <;> rfl
  | cons c l ih =>
    intro n h hn
    obtain ⟨h1, h2, h3, h4⟩ := dc h
    by_cases hc : isN c = true
    · refine Ev.step (f := fun k => gleberef1_Name.l0 k s ((n + 1 : Nat) : Int)) (fun k => ?_) ?_
      · simp only [gleberef1_Name.l0]
        rw [if_pos (by omega), if_pos (by omega), bt_rd, h2, nm, if_pos hc, wrap_nat (by omega)]
      · have := ih (n + 1) h3 (by omega)
        unfold nameV at this ⊢
        rw [List.all_cons, hc, Bool.true_and]
        exact this
    · refine Ev.step (f := fun _ => some _) (fun k => ?_) (Ev.now _)
      simp only [gleberef1_Name.l0]
      rw [if_pos (by omega), if_pos (by omega), bt_rd, h2, nm, if_neg hc]
      unfold nameV
      rw [List.all_cons, Bool.eq_false_iff.2 hc, Bool.false_and, if_neg (by simp)]
theorem name (s : ByteArray) (hs : s.size < 1048576) : Ev (fun k => macs_Name.f k s) (nameV s (bytesOf s)) := by
  refine Ev.congr (fun k => ?_) (name_run s hs (bytesOf s) 0 rfl (Nat.zero_le _))
  unfold macs_Name.f
  rw [if_pos (by omega), Option.bind_some]
  rfl
theorem rname (s : ByteArray) (hs : s.size < 1048576) : Ev (fun k => gleberef1_Name.f k s) (nameV s (bytesOf s)) := rname_run s hs (bytesOf s) 0 rfl (Nat.zero_le _)
/-! ### a number's text -/
def hexb : ByteArray := ⟨#[48, 49, 50, 51, 52, 53, 54, 55, 56, 57, 97, 98, 99, 100, 101, 102]⟩
def hx (n : Int) : Int := bt hexb n
def two (b : Int) : List Int := [hx (b / 16), hx (b % 16)]
def by_ (m : Int) (i : Nat) : Int := m / 2 ^ (8 * i) % 256
theorem u8_15 (x : Int) (h0 : 0 ≤ x) (h1 : x < 256) : Go.bits .and .u8 x 15 = x % 16 := u8_and15 x h0 h1
theorem wraps_u64 (n : Int) (h₀ : 0 ≤ n) (h₁ : n < 2 ^ 64) : IntKind.u64.wrap n = n := by rw [IntKind.wrap_u64]; omega
theorem u64_255 (x : Int) (h0 : 0 ≤ x) (h1 : x < 18446744073709551616) : Go.bits .and .u64 x 255 = x % 256 := bits_mask .u64 64 (by decide) wraps_u64 8 (by decide) x h0 h1
theorem u64_15 (x : Int) (h0 : 0 ≤ x) (h1 : x < 18446744073709551616) : Go.bits .and .u64 x 15 = x % 16 := bits_mask .u64 64 (by decide) wraps_u64 4 (by decide) x h0 h1
theorem u64_48 (x : Int) (h0 : 0 ≤ x) (h1 : x < 18446744073709551616) : Go.bits .and .u64 x 281474976710655 = x % 281474976710656 := bits_mask .u64 64 (by decide) wraps_u64 48 (by decide) x h0 h1
theorem by_range (m : Int) (i : Nat) : 0 ≤ by_ m i ∧ by_ m i < 256 := by unfold by_; omega
theorem shr_by (m : Int) (i : Nat) (hi : i ≤ 5) : (shr .u64 m ((8 * i : Nat) : Int)) % 256 = by_ m i := by
  unfold shr by_
  have : min ((8 * i : Nat) : Int).toNat IntKind.u64.bits = 8 * i := by
    have hb : IntKind.u64.bits = 64 := rfl
    rw [hb]
    omega
  rw [this]
theorem shr_range (m : Int) (h0 : 0 ≤ m) (h1 : m < 281474976710656) (i : Nat) : 0 ≤ shr .u64 m ((8 * i : Nat) : Int) ∧ shr .u64 m ((8 * i : Nat) : Int) < 18446744073709551616 := by
  unfold shr
  have hp : (0 : Int) < 2 ^ min ((8 * i : Nat) : Int).toNat IntKind.u64.bits := by
    have := Nat.two_pow_pos (min ((8 * i : Nat) : Int).toNat IntKind.u64.bits)
    exact_mod_cast this
  constructor
  · exact Int.ediv_nonneg h0 (Int.le_of_lt hp)
  · have := Int.ediv_le_self (2 ^ min ((8 * i : Nat) : Int).toNat IntKind.u64.bits) h0
    omega
theorem print_step (m : Int) (h0 : 0 ≤ m) (h1 : m < 281474976710656) (i : Nat) (hi : i ≤ 5) (out : List ByteArray) (ho : out.length ≤ 5) (k : Nat) :
    macs_Print.l0 (k + 1) m out ((8 * i : Nat) : Int) = macs_Print.l0 k m (out ++ [strOfNums (two (by_ m i))]) ((8 * (i + 1) : Nat) : Int) := by
  have hb := by_range m i
  simp only [macs_Print.l0]
  rw [shr_by m i hi, u8_15 _ hb.1 hb.2, if_pos (by omega), if_pos (by omega), if_pos (by omega), if_pos (by omega), if_pos (by omega), if_pos (by omega), if_pos (by omega), wrap_in (by omega) (by omega)]
  rfl
def text (a0 a1 a2 a3 a4 a5 a6 a7 a8 a9 a10 a11 : Int) : List Int := [a0, a1, 58, a2, a3, 58, a4, a5, 58, a6, a7, 58, a8, a9, 58, a10, a11]
def textM (m : Int) : List Int := text (hx (by_ m 5 / 16)) (hx (by_ m 5 % 16)) (hx (by_ m 4 / 16)) (hx (by_ m 4 % 16)) (hx (by_ m 3 / 16)) (hx (by_ m 3 % 16)) (hx (by_ m 2 / 16)) (hx (by_ m 2 % 16)) (hx (by_ m 1 / 16)) (hx (by_ m 1 % 16)) (hx (by_ m 0 / 16)) (hx (by_ m 0 % 16))
theorem rev6 (p0 p1 p2 p3 p4 p5 : ByteArray) : Ev (fun k => slices_Reverse_string_string.f k [p0, p1, p2, p3, p4, p5]) [p5, p4, p3, p2, p1, p0] :=
  Ev.of (fun k => slices_Reverse_string_string.mono [p0, p1, p2, p3, p4, p5] k) (k := 10) (by kernel_rfl)
theorem join6 (a0 a1 a2 a3 a4 a5 a6 a7 a8 a9 a10 a11 : Int) : strings_Join.f [strOfNums [a0, a1], strOfNums [a2, a3], strOfNums [a4, a5], strOfNums [a6, a7], strOfNums [a8, a9], strOfNums [a10, a11]] (⟨#[58]⟩ : ByteArray) = some (strOfNums (text a0 a1 a2 a3 a4 a5 a6 a7 a8 a9 a10 a11)) := by kernel_rfl
theorem print_f (m : Int) (h0 : 0 ≤ m) (h1 : m < 281474976710656) : Ev (fun k => macs_Print.f k m) (strOfNums (textM m), true) := by
  refine Ev.congr (f := fun k => macs_Print.l0 k m [] ((8 * 0 : Nat) : Int)) (fun k => ?_) ?_
  · unfold macs_Print.f
    rw [if_neg (by omega)]
    rfl
  refine Ev.step (fun k => print_step m h0 h1 0 (by omega) _ (by simp) k) (Ev.step (fun k => print_step m h0 h1 1 (by omega) _ (by simp) k) (Ev.step (fun k => print_step m h0 h1 2 (by omega) _ (by simp) k) (Ev.step (fun k => print_step m h0 h1 3 (by omega) _ (by simp) k) (Ev.step (fun k => print_step m h0 h1 4 (by omega) _ (by simp) k) (Ev.step (fun k => print_step m h0 h1 5 (by omega) _ (by simp) k) ?_)))))
  refine Ev.step (f := fun k => (slices_Reverse_string_string.f k [strOfNums (two (by_ m 0)), strOfNums (two (by_ m 1)), strOfNums (two (by_ m 2)), strOfNums (two (by_ m 3)), strOfNums (two (by_ m 4)), strOfNums (two (by_ m 5))]).bind fun t127 => ((strings_Join.f t127 (⟨#[58]⟩ : ByteArray)).bind fun t128 => (some (t128, true)))) (fun k => ?_)
    (Ev.bind (g := fun k => slices_Reverse_string_string.f k _) (f := fun k t127 => ((strings_Join.f t127 (⟨#[58]⟩ : ByteArray)).bind fun t128 => (some (t128, true)))) (rev6 _ _ _ _ _ _) (Ev.congr (fun k => ?_) (Ev.now _)))
  · simp only [macs_Print.l0]
    rw [if_neg (by omega)]
    rfl
  · unfold two
    rw [join6, Option.bind_some]
    rfl
theorem rprint_step (m : Int) (h0 : 0 ≤ m) (h1 : m < 281474976710656) (i : Nat) (hi : i ≤ 5) (out : List Int) (ho : out.length ≤ 100) (k : Nat) :
    gleberef1_PrintMac.l0 (k + 1) m (strOfNums out) (i : Int) = gleberef1_PrintMac.l0 k m (strOfNums (out ++ two (by_ m i) ++ (if i = 0 then [] else [58]))) ((i : Int) - 1) := by
  have hb := by_range m i
  have hr := shr_range m h0 h1 i
  have e8 : IntKind.u64.wrap (wrap64 (8 * (i : Int))) = ((8 * i : Nat) : Int) := by
    rw [wrap_in (by omega) (by omega), wraps_u64 _ (by omega) (by omega)]
    omega
  have e255 : Go.bits .and .u64 (shr .u64 m ((8 * i : Nat) : Int)) 255 = by_ m i := by rw [u64_255 _ hr.1 hr.2, shr_by m i hi]
  have hsz : ∀ l : List Int, (strOfNums l).size = l.length := size_strOf
  simp only [gleberef1_PrintMac.l0]
  rw [e8, e255, u64_15 _ hb.1 (by omega), if_pos (by omega), if_pos (by omega), if_pos (by omega), if_pos (by omega), if_pos (by omega), if_pos (by omega), Option.bind_some]
  have e2 : [bt (⟨#[48, 49, 50, 51, 52, 53, 54, 55, 56, 57, 97, 98, 99, 100, 101, 102]⟩ : ByteArray) (by_ m i / 16), bt (⟨#[48, 49, 50, 51, 52, 53, 54, 55, 56, 57, 97, 98, 99, 100, 101, 102]⟩ : ByteArray) (by_ m i % 16)] = two (by_ m i) := rfl
  have e3 : (two (by_ m i)).length = 2 := rfl
  rw [e2, hsz, hsz, e3, if_pos (by omega)]
  by_cases h : i = 0
  · rw [if_neg (by omega), if_pos h, List.append_nil, strOf_app, wrap_in (by omega) (by omega)]
  · have e5 : strOfNums [58] = (⟨#[58]⟩ : ByteArray) := rfl
    rw [if_pos (by omega), if_pos (by omega), if_neg h, strOf_app, strOf_app, e5, wrap_in (by omega) (by omega)]
theorem rprint_f (m : Int) (h0 : 0 ≤ m) (h1 : m < 281474976710656) : Ev (fun k => gleberef1_PrintMac.f k m) (strOfNums (textM m), true) := by
  refine Ev.congr (f := fun k => gleberef1_PrintMac.l0 k m (strOfNums []) ((5 : Nat) : Int)) (fun k => ?_) ?_
  · unfold gleberef1_PrintMac.f
    rw [if_neg (by omega)]
    rfl
  refine Ev.step (fun k => rprint_step m h0 h1 5 (by omega) _ (by simp) k) (Ev.step (fun k => rprint_step m h0 h1 4 (by omega) _ (by simp [two]) k) (Ev.step (fun k => rprint_step m h0 h1 3 (by omega) _ (by simp [two]) k) (Ev.step (fun k => rprint_step m h0 h1 2 (by omega) _ (by simp [two]) k) (Ev.step (fun k => rprint_step m h0 h1 1 (by omega) _ (by simp [two]) k) (Ev.step (fun k => rprint_step m h0 h1 0 (by omega) _ (by simp [two]) k) ?_)))))
  refine Ev.step (f := fun _ => some _) (fun k => ?_) (Ev.now _)
  simp only [gleberef1_PrintMac.l0]
  rw [if_neg (by omega)]
  rfl
theorem print_far (m : Int) (h1 : 281474976710656 ≤ m) : Ev (fun k => macs_Print.f k m) ((⟨#[]⟩ : ByteArray), false) := by
  refine Ev.congr (fun k => ?_) (Ev.now _)
  unfold macs_Print.f
  rw [if_pos (by omega)]
theorem rprint_far (m : Int) (h1 : 281474976710656 ≤ m) : Ev (fun k => gleberef1_PrintMac.f k m) ((⟨#[]⟩ : ByteArray), false) := by
  refine Ev.congr (fun k => ?_) (Ev.now _)
  unfold gleberef1_PrintMac.f
  rw [if_pos (by omega)]
/-! ### what twelve digits make -/
def dOk (a : Int) : Prop := 0 ≤ a ∧ a < 256 ∧ 0 ≤ dg a ∧ a ≠ 58
theorem u_ne (a : Int) (h0 : 0 ≤ a) (h1 : a < 256) (h : a ≠ 58) : UInt8.ofNat a.toNat ≠ 58 := by
  have := byteB (p := fun c => decide (c = 58) || !(UInt8.ofNat c.toNat == 58)) (by kernel_rfl) a h0 h1
  intro e
  simp [h, e] at this
theorem bt_two (a b : Int) (ha : 0 ≤ a ∧ a < 256) (hb : 0 ≤ b ∧ b < 256) : bt (mk [UInt8.ofNat a.toNat, UInt8.ofNat b.toNat]) 0 = a ∧ bt (mk [UInt8.ofNat a.toNat, UInt8.ofNat b.toNat]) 1 = b := by
  have e : mk [UInt8.ofNat a.toNat, UInt8.ofNat b.toNat] = strOfNums [a, b] := rfl
  have h : bytesOf (strOfNums [a, b]) = [a, b] := bytesOf_strOf _ (by simp; omega)
  rw [e, ← rd_bytesOf, ← rd_bytesOf, h]
  exact ⟨rfl, rfl⟩
theorem okp_two (a b : Int) (ha : dOk a) (hb : dOk b) : okp (mk [UInt8.ofNat a.toNat, UInt8.ofNat b.toNat]) = true := by
  obtain ⟨e0, e1⟩ := bt_two a b ⟨ha.1, ha.2.1⟩ ⟨hb.1, hb.2.1⟩
  unfold okp
  rw [e0, e1, decide_eq_true ha.2.2.1, decide_eq_true hb.2.2.1]
  rfl
theorem st_two (acc a b : Int) (ha : dOk a) (hb : dOk b) (h0 : 0 ≤ acc) (h1 : acc < 1099511627776) : st acc (mk [UInt8.ofNat a.toNat, UInt8.ofNat b.toNat]) = acc * 256 + (16 * dg a + dg b) := by
  obtain ⟨e0, e1⟩ := bt_two a b ⟨ha.1, ha.2.1⟩ ⟨hb.1, hb.2.1⟩
  have r0 := dg_range a ha.1 ha.2.1
  have r1 := dg_range b hb.1 hb.2.1
  have g0 := ha.2.2.1
  have g1 := hb.2.2.1
  unfold st
  rw [e0, e1, wrap_in (x := 16 * dg a) (by omega) (by omega), wrap_in (by omega) (by omega), wraps_u64 (acc * 256) (by omega) (by omega), wraps_u64 (16 * dg a + dg b) (by omega) (by omega)]
  exact bits_join .u64 64 (by decide) wraps_u64 8 _ _ (by omega) (by omega) (by omega) (by omega) (by omega) (by omega)
theorem nin {a b : Int} (ha : dOk a) (hb : dOk b) : (58 : UInt8) ∉ [UInt8.ofNat a.toNat, UInt8.ofNat b.toNat] := by
  intro h
  rcases List.mem_cons.1 h with h | h
  · exact u_ne a ha.1 ha.2.1 ha.2.2.2 h.symm
  · exact u_ne b hb.1 hb.2.1 hb.2.2.2 (List.mem_singleton.1 h).symm
theorem pieces_text (a0 a1 a2 a3 a4 a5 a6 a7 a8 a9 a10 a11 : Int) (h0 : dOk a0) (h1 : dOk a1) (h2 : dOk a2) (h3 : dOk a3) (h4 : dOk a4) (h5 : dOk a5) (h6 : dOk a6) (h7 : dOk a7) (h8 : dOk a8) (h9 : dOk a9) (h10 : dOk a10) (h11 : dOk a11) :
    pieces 58 (strOfNums (text a0 a1 a2 a3 a4 a5 a6 a7 a8 a9 a10 a11)) = [mk [UInt8.ofNat a0.toNat, UInt8.ofNat a1.toNat], mk [UInt8.ofNat a2.toNat, UInt8.ofNat a3.toNat], mk [UInt8.ofNat a4.toNat, UInt8.ofNat a5.toNat], mk [UInt8.ofNat a6.toNat, UInt8.ofNat a7.toNat], mk [UInt8.ofNat a8.toNat, UInt8.ofNat a9.toNat], mk [UInt8.ofNat a10.toNat, UInt8.ofNat a11.toNat]] := by
  have e : (strOfNums (text a0 a1 a2 a3 a4 a5 a6 a7 a8 a9 a10 a11)).data.toList = [UInt8.ofNat a0.toNat, UInt8.ofNat a1.toNat] ++ 58 :: ([UInt8.ofNat a2.toNat, UInt8.ofNat a3.toNat] ++ 58 :: ([UInt8.ofNat a4.toNat, UInt8.ofNat a5.toNat] ++ 58 :: ([UInt8.ofNat a6.toNat, UInt8.ofNat a7.toNat] ++ 58 :: ([UInt8.ofNat a8.toNat, UInt8.ofNat a9.toNat] ++ 58 :: [UInt8.ofNat a10.toNat, UInt8.ofNat a11.toNat])))) := rfl
  unfold pieces
  rw [e, sp_hit _ _ _ _ (nin h0 h1), sp_hit _ _ _ _ (nin h2 h3), sp_hit _ _ _ _ (nin h4 h5), sp_hit _ _ _ _ (nin h6 h7), sp_hit _ _ _ _ (nin h8 h9), sp_none _ _ _ (nin h10 h11)]
  rfl
def val (a0 a1 a2 a3 a4 a5 a6 a7 a8 a9 a10 a11 : Int) : Int := 17592186044416 * dg a0 + 1099511627776 * dg a1 + 68719476736 * dg a2 + 4294967296 * dg a3 + 268435456 * dg a4 + 16777216 * dg a5 + 1048576 * dg a6 + 65536 * dg a7 + 4096 * dg a8 + 256 * dg a9 + 16 * dg a10 + dg a11
theorem macV_text (a0 a1 a2 a3 a4 a5 a6 a7 a8 a9 a10 a11 : Int) (h0 : dOk a0) (h1 : dOk a1) (h2 : dOk a2) (h3 : dOk a3) (h4 : dOk a4) (h5 : dOk a5) (h6 : dOk a6) (h7 : dOk a7) (h8 : dOk a8) (h9 : dOk a9) (h10 : dOk a10) (h11 : dOk a11) :
    macV (pieces 58 (strOfNums (text a0 a1 a2 a3 a4 a5 a6 a7 a8 a9 a10 a11))) = (val a0 a1 a2 a3 a4 a5 a6 a7 a8 a9 a10 a11, true) := by
  have r := fun (a : Int) (h : dOk a) => (dg_range a h.1 h.2.1).2
  have g := fun (a : Int) (h : dOk a) => h.2.2.1
  have r0 := r _ h0; have r1 := r _ h1; have r2 := r _ h2; have r3 := r _ h3; have r4 := r _ h4; have r5 := r _ h5; have r6 := r _ h6; have r7 := r _ h7; have r8 := r _ h8; have r9 := r _ h9
  have g0 := g _ h0; have g1 := g _ h1; have g2 := g _ h2; have g3 := g _ h3; have g4 := g _ h4; have g5 := g _ h5; have g6 := g _ h6; have g7 := g _ h7; have g8 := g _ h8; have g9 := g _ h9
  rw [pieces_text _ _ _ _ _ _ _ _ _ _ _ _ h0 h1 h2 h3 h4 h5 h6 h7 h8 h9 h10 h11]
  unfold macV
  rw [if_pos ⟨by simp only [List.all_cons, List.all_nil, okp_two _ _ h0 h1, okp_two _ _ h2 h3, okp_two _ _ h4 h5, okp_two _ _ h6 h7, okp_two _ _ h8 h9, okp_two _ _ h10 h11]; rfl, rfl⟩]
  simp only [List.foldl_cons, List.foldl_nil]
  rw [st_two 0 _ _ h0 h1 (by omega) (by omega), st_two _ _ _ h2 h3 (by omega) (by omega), st_two _ _ _ h4 h5 (by omega) (by omega), st_two _ _ _ h6 h7 (by omega) (by omega), st_two _ _ _ h8 h9 (by omega) (by omega), st_two _ _ _ h10 h11 (by omega) (by omega)]
  unfold val
  congr 1
  omega
theorem hx_ok (n : Int) (h0 : 0 ≤ n) (h1 : n < 16) : dOk (hx n) ∧ dg (hx n) = n := by
  have := byteB (p := fun n => decide (16 ≤ n) || (decide (0 ≤ hx n) && decide (hx n < 256) && decide (dg (hx n) = n) && !decide (hx n = 58))) (by kernel_rfl) n h0 (by omega)
  have h2 : ¬ 16 ≤ n := by omega
  simp [h2] at this
  unfold dOk
  omega
theorem parse_textM (m : Int) (h0 : 0 ≤ m) (h1 : m < 281474976710656) : macV (pieces 58 (strOfNums (textM m))) = (m, true) := by
  have b0 := by_range m 0; have b1 := by_range m 1; have b2 := by_range m 2; have b3 := by_range m 3; have b4 := by_range m 4; have b5 := by_range m 5
  have q := fun (b : Int) (h : 0 ≤ b ∧ b < 256) => hx_ok (b / 16) (by omega) (by omega)
  have p := fun (b : Int) (h : 0 ≤ b ∧ b < 256) => hx_ok (b % 16) (by omega) (by omega)
  unfold textM
  rw [macV_text _ _ _ _ _ _ _ _ _ _ _ _ (q _ b5).1 (p _ b5).1 (q _ b4).1 (p _ b4).1 (q _ b3).1 (p _ b3).1 (q _ b2).1 (p _ b2).1 (q _ b1).1 (p _ b1).1 (q _ b0).1 (p _ b0).1]
  unfold val
  rw [(q _ b5).2, (p _ b5).2, (q _ b4).2, (p _ b4).2, (q _ b3).2, (p _ b3).2, (q _ b2).2, (p _ b2).2, (q _ b1).2, (p _ b1).2, (q _ b0).2, (p _ b0).2]
  congr 1
  unfold by_
  simp only [Nat.mul_zero, Nat.reduceMul, Int.reducePow]
  omega
end Go.Proofs.YtcgchblljhbdaaaDoor.MacsS
