/- Calls told in plain words, for LibraryTexts and LibraryBounds. -/
import Derived.Test.YtfagldjhibdfhaaGreatDoorYB6
import Derived.Lib.IndexMore
namespace Go.Proofs.YtfagldjhibdfhaaGreatDoor
open Go.RowKit
set_option linter.unusedVariables false
set_option linter.unusedSimpArgs false

theorem callR_of {H : Hp} {name : ByteArray} {l : List Vl} {f : Nat} (hi : libIdx name = some f) (ha : askW H f l = sNone) : callR H name l = some (doR H f l) := by
  unfold callR
  rw [hi, Option.map_some, if_pos ha]
theorem callR_bad {H : Hp} {name : ByteArray} {l : List Vl} {f : Nat} {o : ByteArray} (hi : libIdx name = some f) (ha : askW H f l = o) (ho : ¬ o = sNone) : callR H name l = some (.no H o) := by
  unfold callR
  rw [hi, Option.map_some, if_neg (by rw [ha]; exact ho), ha]
theorem ck_text {s : ByteArray} (h : s.size ≤ 1048576) : (⟨3, 0, s⟩ : Vl).ck = true := by
  unfold Vl.ck checkB
  simp [h]
theorem ck_num (n : Int) : (⟨2, n, eN⟩ : Vl).ck = true := ck_iK n
theorem bad_t {s : ByteArray} (h : s.size ≤ 1048576) : kindBad 116 ⟨3, 0, s⟩ = false := by unfold kindBad; rw [ck_text h]; simp
theorem bad_n (n : Int) : kindBad 110 ⟨2, n, eN⟩ = false := by unfold kindBad; rw [ck_num]; simp
theorem bad_v {v : Vl} (h : v.ck = true) : kindBad 118 v = false := by unfold kindBad; rw [h]; simp
theorem mkR_fits {H : Hp} {s : ByteArray} (h : s.size ≤ 1048576) (hc : H.spent + mkN s ≤ H.cells) : mkR H s = ⟨⟨3, 0, s⟩, eN, ⟨H.tabs, H.cells, H.spent + mkN s⟩⟩ := by
  unfold mkR mkV mkW mkH mkC tk
  rw [if_neg (by omega), if_pos (by omega), if_neg (by omega), if_pos (by omega), if_neg (by omega), if_pos (by omega)]
  rfl
theorem mkN_nat (s : ByteArray) : 0 ≤ mkN s ∧ mkN s ≤ s.size + 1 := by unfold mkN; omega
/-- sub, of three. -/
theorem call_sub3 {H : Hp} {s : ByteArray} (h : s.size ≤ 1048576) (a b : Int) (hc : H.spent + mkN (ba (subL s.data.toList a b)) ≤ H.cells) :
    callR H wSub [⟨3, 0, s⟩, ⟨2, a, eN⟩, ⟨2, b, eN⟩] = some ⟨⟨3, 0, ba (subL s.data.toList a b)⟩, eN, ⟨H.tabs, H.cells, H.spent + mkN (ba (subL s.data.toList a b))⟩⟩ := by
  rw [callR_of (f := 9) (by kernel_rfl) (by show askL H [116, 110, 110] _ = _; simp [askL, bad_t h, bad_n])]
  show some (mkR H (ba (subL s.data.toList a b))) = _
  rw [mkR_fits _ hc]
  rw [ba_size]
  have := subL_len s.data.toList a b
  have h2 : s.data.toList.length = s.size := rfl
  omega
theorem call_sub2 {H : Hp} {s : ByteArray} (h : s.size ≤ 1048576) (a : Int) (hc : H.spent + mkN (ba (subL s.data.toList a (-1))) ≤ H.cells) :
    callR H wSub [⟨3, 0, s⟩, ⟨2, a, eN⟩] = some ⟨⟨3, 0, ba (subL s.data.toList a (-1))⟩, eN, ⟨H.tabs, H.cells, H.spent + mkN (ba (subL s.data.toList a (-1)))⟩⟩ := by
  rw [callR_of (f := 9) (by kernel_rfl) (by show askL H [116, 110] _ = _; simp [askL, bad_t h, bad_n])]
  show some (mkR H (ba (subL s.data.toList a (-1)))) = _
  rw [mkR_fits _ hc]
  rw [ba_size]
  have := subL_len s.data.toList a (-1)
  have h2 : s.data.toList.length = s.size := rfl
  omega
theorem call_find {H : Hp} {s t : ByteArray} (h : s.size ≤ 1048576) (ht : t.size ≤ 1048576) : callR H wFind [⟨3, 0, s⟩, ⟨3, 0, t⟩] = some ⟨findV s t, eN, H⟩ := by
  rw [callR_of (f := 3) (by kernel_rfl) (by show askL H [116, 116] _ = _; simp [askL, bad_t h, bad_t ht])]
  rfl
abbrev wTostring : ByteArray := ⟨#[116, 111, 115, 116, 114, 105, 110, 103]⟩
abbrev wTonumber : ByteArray := ⟨#[116, 111, 110, 117, 109, 98, 101, 114]⟩
theorem call_tostring {H : Hp} (n : Int) (hn : in64 n) (hc : H.spent + mkN (ba (Lib.itoa n)) ≤ H.cells) :
    callR H wTostring [⟨2, n, eN⟩] = some ⟨⟨3, 0, ba (Lib.itoa n)⟩, eN, ⟨H.tabs, H.cells, H.spent + mkN (ba (Lib.itoa n))⟩⟩ := by
  rw [callR_of (f := 11) (by kernel_rfl) (by show askL H [118] _ = _; simp [askL, bad_v (ck_num n)])]
  show some (mkR H (ba (Lib.itoa n))) = _
  rw [mkR_fits _ hc]
  rw [ba_size]
  have := Lib.itoa_length_le n hn.1 hn.2
  omega
theorem call_tonumber {H : Hp} (n : Int) (hn : in64 n) : callR H wTonumber [⟨3, 0, ba (Lib.itoa n)⟩] = some ⟨⟨2, n, eN⟩, eN, H⟩ := by
  have hl : (ba (Lib.itoa n)).size ≤ 1048576 := by rw [ba_size]; have := Lib.itoa_length_le n hn.1 hn.2; omega
  rw [callR_of (f := 10) (by kernel_rfl) (by show askL H [118] _ = _; simp [askL, bad_v (ck_text hl)])]
  show some (Rs.ok H (tonumV ⟨3, 0, ba (Lib.itoa n)⟩)) = _
  unfold tonumV
  simp only []
  rw [if_neg (by decide), if_pos trivial, ba_list, tnL_itoa n hn.1 hn.2]
  rfl
/-- What is cut out is found, and no later. -/
theorem find_drop (s : ByteArray) (p : Nat) (hp : p ≤ s.size) : ∃ i : Nat, i ≤ p ∧ findV s (ba (s.data.toList.drop p)) = ⟨2, (i : Int) + 1, eN⟩ := by
  have hocc : Lib.occAt s.data.toList (s.data.toList.drop p) p = true := by
    unfold Lib.occAt
    simp
  rcases Lib.index_spec s.data.toList (s.data.toList.drop p) with ⟨h1, h2⟩ | ⟨i, h1, h2, h3, h4⟩
  · have := h2 p (by show p ≤ s.size; exact hp)
    rw [hocc] at this
    cases this
  · refine ⟨i, ?_, ?_⟩
    · rcases Nat.lt_or_ge p i with h | h
      · have := h4 p h
        rw [hocc] at this
        cases this
      · exact h
    · unfold findV
      rw [ba_list, h1, if_pos (by omega)]
      rfl
end Go.Proofs.YtfagldjhibdfhaaGreatDoor
