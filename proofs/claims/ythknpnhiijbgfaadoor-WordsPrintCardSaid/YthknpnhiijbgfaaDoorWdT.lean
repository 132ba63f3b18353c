/- Words: numbers, in the document. -/
import Derived.Test.YthknpnhiijbgfaaDoorWdQ
namespace Go.Proofs.YthknpnhiijbgfaaDoor
open Go.RowKit
set_option linter.unusedVariables false
set_option linter.unusedSimpArgs false

def numV : Option Nat → Value
  | none => .tuple #[.int .i64 0, .bool false]
  | some v => .tuple #[.int .i64 (v : Int), .bool true]
def numR (acc : Nat) (l : List UInt8) : Option Nat := if decVal l acc ≤ 9223372036854775807 then some (decVal l acc) else none
theorem numR_zero {l : List UInt8} (h : l.all digB = true) : numP l = numR 0 l := by
  by_cases h2 : decVal l 0 ≤ 9223372036854775807
  · rw [numP, numR, if_pos ⟨h, h2⟩, if_pos h2]
  · rw [numP, numR, if_neg (fun e => h2 e.2), if_neg h2]
theorem numR_cons (acc : Nat) (c : UInt8) (l : List UInt8) : numR acc (c :: l) = numR (10 * acc + (c.toNat - 48)) l := by rw [numR, numR, decVal]
theorem numR_over {acc : Nat} {l : List UInt8} (h : 9223372036854775807 < acc) : numR acc l = none := by
  have := val_ge l acc
  unfold numR
  rw [if_neg (by omega)]
set_option maxRecDepth 100000 in
set_option maxHeartbeats 2000000 in
theorem rnumber_any (w : World) (s : ByteArray) (hd : s.data.toList.all digB = true) (hs : s.size ≤ 9223372036854775806) : Calls Tryd.prog 46 #[.string s] w fun e w' => e = .returned (numV (numP s.data.toList)) ∧ Ext w w' := by
  rw [numR_zero hd]
  obtain ⟨n, hn⟩ : ∃ n, s.size = n := ⟨_, rfl⟩
  have hl : s.data.toList.length = n := hn
  obtain ⟨l, hL⟩ : ∃ l, s.data.toList = l := ⟨_, rfl⟩
  rw [hL] at hd hl ⊢
  obtain ⟨r, hr⟩ : ∃ r, numR 0 l = r := ⟨_, rfl⟩
  rw [hr]
  have HR := Lib.hid hr
  have HL := Lib.hid hL
  have HD := Lib.hid hd
  clear hr hL hd
  go_enter Tryd.func46, Tryd.ntmps46
  go_wp2_with fail
  go_loopw [4, 5] (fun v4 v5 wr => ∃ (k : Nat) (a : Int), v5 = .int .i64 (k : Int) ∧ v4 = .int .i64 a ∧ k ≤ n ∧ 0 ≤ a ∧ a ≤ 9223372036854775807 ∧ wr = w ∧ Hid (∃ acc : Nat, a = (acc : Int) ∧ numR acc (l.drop k) = r)) (fun _ v5 _ => n - (intOf v5).toNat)
  case atStart => exact ⟨0, 0, rfl, rfl, by omega, by omega, by omega, rfl, Lib.hid ⟨0, rfl, HR.out⟩⟩
  case round =>
    obtain ⟨k, a, rfl, rfl, hk, ha0, ha1, rfl, HK⟩ := hrel
    by_cases hkn : k < n
    · have d1 : decide ((k : Int) < (n : Int)) = true := decide_eq_true (by omega)
      have d1n : decide (k < n) = true := decide_eq_true hkn
      have hks : k < s.size := by omega
      obtain ⟨c, hc⟩ : ∃ c, s[k]'hks = c := ⟨_, rfl⟩
      have hkl : k < l.length := by omega
      have hdr : l.drop k = c :: l.drop (k + 1) := by rw [List.drop_eq_getElem_cons hkl, ← hc]; congr 1; rw [← str_get]; exact get_of HL.out.symm _
      have hdig : digB c = true := by
        have h1 := List.all_eq_true.1 HD.out c (by
          have h2 : c ∈ l.drop k := by rw [hdr]; exact List.mem_cons_self ..
          exact List.mem_of_mem_drop h2)
        exact h1
      have x0 : 48 ≤ c.toNat ∧ c.toNat ≤ 57 := by simpa [digB] using hdig
      obtain ⟨x, hx⟩ : ∃ x : Int, (c.toNat : Int) - 48 = x := ⟨_, rfl⟩
      have hx0 : 0 ≤ x := by omega
      have hx9 : x ≤ 9 := by omega
      have hcx : (c.toNat : Int) = x + 48 := by omega
      have hK := HK.out
      rw [hdr] at hK
      have HKK := Lib.hid hK
      have HCX := Lib.hid hcx
      clear hdr hdig hkl hK HK hx hcx
      have hc0 : (48 : Int) ≤ (c.toNat : Int) := by omega
      have hc1 : (c.toNat : Int) ≤ 57 := by omega
      clear x0
      have hxx : (c.toNat : Int) - 48 = x := by have := HCX.out; omega
      by_cases hov : (9223372036854775807 - x) / 10 < a
      · have HRR : Hid (r = none) := Lib.hid (by
          obtain ⟨acc, e1, e2⟩ := HKK.out
          have h1 := HCX.out
          rw [← e2, numR_cons]
          exact numR_over (by omega))
        go_wp2_with fail
        go_ret2
        exact ⟨by rw [HRR.out]; rfl, Ext.refl _⟩
      · have hle : a ≤ (9223372036854775807 - x) / 10 := by omega
        have hb1 : 10 * a + x ≤ 9223372036854775807 := by omega
        have hb2 : 10 * a ≤ 9223372036854775807 := by omega
        have hb0 : 0 ≤ 10 * a + x := by omega
        have HN : Hid (∃ acc : Nat, 10 * a + x = (acc : Int) ∧ numR acc (l.drop (k + 1)) = r) := Lib.hid (by
          obtain ⟨acc, e1, e2⟩ := HKK.out
          have h1 := HCX.out
          rw [numR_cons] at e2
          exact ⟨_, by omega, e2⟩)
        clear hov
        go_wp2_with fail
        go_roundw
        case rel => exact ⟨k + 1, 10 * a + x, by go_num, by first | rfl | (congr 1; omega), by omega, hb0, hb1, by first | rfl | trivial, HN⟩
        case measure => simp [intOf]; omega
    · have d1 : decide ((k : Int) < (n : Int)) = false := decide_eq_false (by omega)
      have d1n : decide (k < n) = false := decide_eq_false hkn
      have HRR : Hid (numV r = .tuple #[.int .i64 a, .bool true]) := Lib.hid (by
        obtain ⟨acc, e1, e2⟩ := HK.out
        rw [List.drop_eq_nil_of_le (by omega)] at e2
        rw [← e2, e1]
        unfold numR
        have e3 : decVal [] acc = acc := rfl
        rw [e3, if_pos (by omega)]
        rfl)
      go_wp2_with fail
      go_ret2
      exact ⟨by rw [HRR.out]; rfl, Ext.refl _⟩
end Go.Proofs.YthknpnhiijbgfaaDoor
