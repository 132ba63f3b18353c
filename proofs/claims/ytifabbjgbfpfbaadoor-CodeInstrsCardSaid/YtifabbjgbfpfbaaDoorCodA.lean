/- What an operand names: the small functions. -/
import Derived.Test.YtifabbjgbfpfbaaDoorCod0
import Derived.Lib.Strings
namespace Go.Proofs.YtifabbjgbfpfbaaDoor
open Go.RowKit
set_option linter.unusedVariables false
set_option linter.unusedSimpArgs false

theorem reg_any (f : Pr) (cv : Value) (n : Int) (w : World) :
    Calls Tryd.prog 33 #[.agg #[.int .i64 f.pa, .int .i64 f.rg, cv], .int .i64 n] w fun e w' => e = .returned (.bool (decide (0 ≤ n) && decide (n < f.rg))) ∧ w' = w.alloc (.cells #[.int .i64 f.pa, .int .i64 f.rg, cv] 34) := by
  cases h0 : decide (0 ≤ n) <;> cases h1 : decide (n < f.rg)
  all_goals
    go_enter Tryd.func33, Tryd.ntmps33
    go_wp2
    go_ret
    exact ⟨rfl, rfl⟩
theorem place_any (f : Pr) (q : Option Addr) (c m : Nat) (n : Int) (w : World) :
    Calls Tryd.prog 34 #[.agg #[.int .i64 f.pa, .int .i64 f.rg, .slice q m c], .int .i64 n] w fun e w' => e = .returned (.bool (decide (0 ≤ n) && decide (n < (m : Int)))) ∧ w' = w.alloc (.cells #[.int .i64 f.pa, .int .i64 f.rg, .slice q m c] 34) := by
  cases h0 : decide (0 ≤ n) <;> cases h1 : decide (n < (m : Int))
  all_goals
    go_enter Tryd.func34, Tryd.ntmps34
    go_wp2
    go_ret
    exact ⟨rfl, rfl⟩
theorem opf_1 (B : Nat) (n : Int) (w : World) (h : w.cell? ⟨B, 0, none⟩ = some (.int .i64 n)) :
    Calls Tryd.prog 41 #[.pointer (some ⟨B, 0, none⟩)] w fun e w' => e = .returned (.bool (n == 0)) ∧ w' = w := by
  go_enter Tryd.func41, Tryd.ntmps41
  go_wp2
  go_ret
  exact ⟨rfl, rfl⟩
theorem opf_2 (B X : Nat) (n r : Int) (w : World) (h : w.cell? ⟨B, 0, none⟩ = some (.int .i64 n)) (hx : w.cell? ⟨X, 4, none⟩ = some (.int .i64 r)) :
    Calls Tryd.prog 42 #[.pointer (some ⟨B, 0, none⟩), .pointer (some ⟨X, 0, none⟩)] w fun e w' => e = .returned (.bool (decide (0 ≤ n) && decide (n < r))) ∧ w' = w := by
  cases h0 : decide (0 ≤ n) <;> cases h1 : decide (n < r)
  all_goals
    go_enter Tryd.func42, Tryd.ntmps42
    go_wp2
    go_ret
    exact ⟨rfl, rfl⟩
theorem opf_3 (B X : Nat) (n : Int) (q : Option Addr) (m c : Nat) (w : World) (h : w.cell? ⟨B, 0, none⟩ = some (.int .i64 n)) (hx : w.cell? ⟨X, 5, none⟩ = some (.slice q m c)) :
    Calls Tryd.prog 43 #[.pointer (some ⟨B, 0, none⟩), .pointer (some ⟨X, 0, none⟩)] w fun e w' => e = .returned (.bool (decide (0 ≤ n) && decide (n < (m : Int)))) ∧ w' = w := by
  cases h0 : decide (0 ≤ n) <;> cases h1 : decide (n < (m : Int))
  all_goals
    go_enter Tryd.func43, Tryd.ntmps43
    go_wp2
    go_ret
    exact ⟨rfl, rfl⟩
theorem opf_4 (B X : Nat) (n : Int) (q : Option Addr) (m c : Nat) (w : World) (h : w.cell? ⟨B, 0, none⟩ = some (.int .i64 n)) (hx : w.cell? ⟨X, 1, none⟩ = some (.slice q m c)) :
    Calls Tryd.prog 44 #[.pointer (some ⟨B, 0, none⟩), .pointer (some ⟨X, 0, none⟩)] w fun e w' => e = .returned (.bool (decide (0 ≤ n) && decide (n < (m : Int)))) ∧ w' = w := by
  cases h0 : decide (0 ≤ n) <;> cases h1 : decide (n < (m : Int))
  all_goals
    go_enter Tryd.func44, Tryd.ntmps44
    go_wp2
    go_ret
    exact ⟨rfl, rfl⟩
theorem opf_5 (B X : Nat) (n : Int) (q : Option Addr) (m c : Nat) (w : World) (h : w.cell? ⟨B, 0, none⟩ = some (.int .i64 n)) (hx : w.cell? ⟨X, 2, none⟩ = some (.slice q m c)) :
    Calls Tryd.prog 45 #[.pointer (some ⟨B, 0, none⟩), .pointer (some ⟨X, 0, none⟩)] w fun e w' => e = .returned (.bool (decide (0 ≤ n) && decide (n < (m : Int)))) ∧ w' = w := by
  cases h0 : decide (0 ≤ n) <;> cases h1 : decide (n < (m : Int))
  all_goals
    go_enter Tryd.func45, Tryd.ntmps45
    go_wp2
    go_ret
    exact ⟨rfl, rfl⟩
theorem opf_6 (B X : Nat) (n : Int) (q : Option Addr) (m c : Nat) (w : World) (h : w.cell? ⟨B, 0, none⟩ = some (.int .i64 n)) (hx : w.cell? ⟨X, 0, none⟩ = some (.slice q m c)) :
    Calls Tryd.prog 46 #[.pointer (some ⟨B, 0, none⟩), .pointer (some ⟨X, 0, none⟩)] w fun e w' => e = .returned (.bool (decide (0 ≤ n) && decide (n < (m : Int)))) ∧ w' = w := by
  cases h0 : decide (0 ≤ n) <;> cases h1 : decide (n < (m : Int))
  all_goals
    go_enter Tryd.func46, Tryd.ntmps46
    go_wp2
    go_ret
    exact ⟨rfl, rfl⟩
theorem opf_8 (B X : Nat) (n r : Int) (w : World) (h : w.cell? ⟨B, 0, none⟩ = some (.int .i64 n)) (hx : w.cell? ⟨X, 4, none⟩ = some (.int .i64 r)) :
    Calls Tryd.prog 49 #[.pointer (some ⟨B, 0, none⟩), .pointer (some ⟨X, 0, none⟩)] w fun e w' => e = .returned (.bool (decide (0 ≤ n) && decide (n ≤ r))) ∧ w' = w := by
  cases h0 : decide (0 ≤ n) <;> cases h1 : decide (n ≤ r)
  all_goals
    go_enter Tryd.func49, Tryd.ntmps49
    go_wp2
    go_ret
    exact ⟨rfl, rfl⟩

theorem any_drop (s : ByteArray) (k : Nat) (h : k < builtL.length) : (builtL.drop k).any (fun x => x.data == s.data) = ((builtL[k].data == s.data) || (builtL.drop (k + 1)).any fun x => x.data == s.data) := by
  rw [List.drop_eq_getElem_cons h, List.any_cons]
theorem eq_str (x s : ByteArray) (b : Bool) (h : (x.data == s.data) = b) : (x.toList == s.toList) = b := by
  rw [Lib.toList_data, Lib.toList_data, ← h, Bool.eq_iff_iff, beq_iff_eq, beq_iff_eq]
  exact ⟨fun e => Array.ext' (by simpa using e), fun e => by rw [e]⟩
theorem rbuilt_any (s : ByteArray) (w : World) : Calls Tryd.prog 35 #[.string s] w fun e w' => e = .returned (.bool (builtB s)) ∧ Ext w w' := by
  go_enter Tryd.func35, Tryd.ntmps35
  go_wp2
  go_loopw [4] (fun i wr => ∃ k : Nat, k ≤ 16 ∧ i = .int .i64 k ∧ Ext w wr ∧ Blk wr w.heap.size 9 (builtL.map Value.string).toArray ∧ Hid ((builtL.drop k).any (fun x => x.data == s.data) = builtB s)) (fun i _ => 16 - (intOf i).toNat)
  case atStart => exact ⟨0, Nat.zero_le _, rfl, (Ext.refl w).alloc _, Blk.new _ _ _, rfl⟩
  case round =>
    obtain ⟨k, hk, rfl, he, hb, H⟩ := hrel
    by_cases h1 : k < 16
    · have hc : wr.cell? ⟨w.heap.size, k, none⟩ = some (.string (builtL[k]'h1)) := by
        rw [hb.cell]; simp [show k < builtL.length from h1]; rfl
      cases h2 : ((builtL[k]'h1).data == s.data)
      · have h3 := eq_str _ _ _ h2
        have HH : Hid ((builtL.drop (k + 1)).any (fun x => x.data == s.data) = builtB s) := by
          have := H.out; rw [any_drop s k h1, h2] at this; exact this
        clear H h2
        have HB := Lib.hid hb
        clear hb
        go_wp2
        go_roundw
        case rel => exact ⟨k + 1, h1, by go_num, he, HB.out, HH⟩
        case measure => simp [intOf]; omega
      · have h3 := eq_str _ _ _ h2
        have HH : Hid (builtB s = true) := by
          have := H.out; rw [any_drop s k h1, h2] at this; exact this.symm
        clear H h2 hb
        go_wp2
        go_ret
        exact ⟨ret_of (bool_eq HH.out.symm), he⟩
    · obtain rfl : k = 16 := by omega
      have HH : Hid (builtB s = false) := by have := H.out; exact this.symm
      clear H hb
      go_wp2
      go_ret
      exact ⟨ret_of (bool_eq HH.out.symm), he⟩
end Go.Proofs.YtifabbjgbfpfbaaDoor
