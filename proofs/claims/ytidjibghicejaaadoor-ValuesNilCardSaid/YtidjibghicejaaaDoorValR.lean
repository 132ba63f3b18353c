/- The order of texts, byte by byte, by the reference. -/
import Derived.Test.YtidjibghicejaaaDoorValK
namespace Go.Proofs.YtidjibghicejaaaDoor
open Go.RowKit
set_option linter.unusedVariables false

theorem drop_cons (s : ByteArray) (k : Nat) (h : k < s.size) : s.data.toList.drop k = s[k] :: s.data.toList.drop (k + 1) := by
  have h' : k < s.data.toList.length := by simpa using h
  rw [List.drop_eq_getElem_cons h']; rfl
theorem drop_all (s : ByteArray) (k : Nat) (h : s.size ≤ k) : s.data.toList.drop k = [] := List.drop_eq_nil_of_le (by simpa using h)
/-- What is left of two texts decides. -/
def leftS (s t : ByteArray) (k : Nat) : Bool := Op.bytesLess (s.data.toList.drop k) (t.data.toList.drop k)
theorem left_zero (s t : ByteArray) : leftS s t 0 = lessS s t := by simp [leftS, lessS, Lib.toList_data]
theorem left_same {s t : ByteArray} {k : Nat} (h : k < s.size) (h' : k < t.size) (e : s[k] = t[k]) : leftS s t k = leftS s t (k + 1) := by
  unfold leftS; rw [drop_cons s k h, drop_cons t k h', Op.bytesLess, e]; simp
theorem left_other {s t : ByteArray} {k : Nat} (h : k < s.size) (h' : k < t.size) (e : ¬ s[k] = t[k]) : leftS s t k = decide (s[k].toNat < t[k].toNat) := by
  unfold leftS; rw [drop_cons s k h, drop_cons t k h', Op.bytesLess]; simp [e, UInt8.lt_iff_toNat_lt]
theorem left_end {s t : ByteArray} {k : Nat} (hs : k ≤ s.size) (ht : k ≤ t.size) (h : k = s.size ∨ k = t.size) : leftS s t k = decide (s.size < t.size) := by
  unfold leftS
  by_cases h1 : k < s.size
  · have : k = t.size := by omega
    rw [drop_all t k (by omega), drop_cons s k h1]
    simp [Op.bytesLess]; omega
  · rw [drop_all s k (by omega)]
    by_cases h2 : k < t.size
    · rw [drop_cons t k h2]; simp [Op.bytesLess]; omega
    · rw [drop_all t k (by omega)]; simp [Op.bytesLess]; omega

theorem rless_any (s t : ByteArray) (w : World) (hs : s.size ≤ 9223372036854775807) (ht : t.size ≤ 9223372036854775807) :
    Calls Tryd.prog 31 #[.string s, .string t] w fun e w' => e = .returned (.bool (lessS s t)) ∧ ∃ n, w' = w.drewN n := by
  go_enter Tryd.func31, Tryd.ntmps31
  go_wp2
  go_loopw [5] (fun i wr => ∃ k : Nat, k ≤ s.size ∧ k ≤ t.size ∧ i = .int .i64 k ∧ (∃ n, wr = w.drewN n) ∧ Hid (leftS s t k = lessS s t)) (fun i _ => s.size - (intOf i).toNat)
  case atStart => exact ⟨0, Nat.zero_le _, Nat.zero_le _, rfl, ⟨0, rfl⟩, left_zero s t⟩
  case round =>
    obtain ⟨k, hk, hk', rfl, ⟨n, rfl⟩, H⟩ := hrel
    by_cases h1 : k < s.size
    · by_cases h2 : k < t.size
      · by_cases h3 : s[k] = t[k]
        · go_wp2
          go_quiet (fail)
          go_wp2
          go_roundw
          case rel => exact ⟨k + 1, h1, h2, by go_num, ⟨_, rfl⟩, (left_same h1 h2 h3).symm.trans H.out⟩
          case measure => simp [intOf]; omega
        · have hne : ((s[k].toNat : Int) != (t[k].toNat : Int)) = true := by
            rw [bne_iff_ne]; intro e; exact h3 (UInt8.toNat_inj.1 (by omega))
          go_wp2
          go_quiet (fail)
          go_wp2
          go_quiet (fail)
          go_wp2
          go_ret
          go_tidy
          exact ⟨ret_of (bool_eq (by rw [← H.out, left_other h1 h2 h3])), ⟨_, by rw [World.drewN_drewN, World.drewN_drewN]⟩⟩
      · go_wp2
        go_ret
        exact ⟨ret_of (bool_eq (by rw [← H.out, left_end hk hk' (by omega)])), ⟨_, rfl⟩⟩
    · go_wp2
      go_ret
      exact ⟨ret_of (bool_eq (by rw [← H.out, left_end hk hk' (by omega)])), ⟨_, rfl⟩⟩
end Go.Proofs.YtidjibghicejaaaDoor
