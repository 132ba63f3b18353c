/- What the laws of values do first: whether a text is long; whether a value is so; one is taken from none. -/
import Derived.Test.YtidjibghicejaaaDoorValS
namespace Go.Proofs.YtidjibghicejaaaDoor
open Go.RowKit
set_option linter.unusedVariables false
set_option linter.unusedSimpArgs false

/-- Is one of the texts of the first n longer than 500 bytes? -/
def longF (f : Nat → ByteArray) : Nat → Nat → Bool
  | _, 0 => false
  | k, m + 1 => decide (500 < ((f k).size : Int)) || longF f (k + 1) m
theorem long_any (B n : Nat) (f : Nat → ByteArray) (w : World) (hn : n ≤ 1000000) (hc : ∀ i, i < n → w.cell? ⟨B, i * 3 + 2, none⟩ = some (.string (f i))) (hz : ∀ i, i < n → (f i).size ≤ 9223372036854775807) :
    Calls Tryd.prog 7 #[.slice (some ⟨B, 0, none⟩) n n] w fun e w' => e = .returned (.bool (longF f 0 n)) ∧ w' = w := by
  go_enter Tryd.func7, Tryd.ntmps7
  go_wp2
  go_loopw [3] (fun i wr => ∃ k : Nat, k ≤ n ∧ i = .int .i64 k ∧ wr = w ∧ Hid (longF f k (n - k) = longF f 0 n)) (fun i _ => n - (intOf i).toNat)
  case atStart => exact ⟨0, Nat.zero_le _, rfl, rfl, rfl⟩
  case round =>
    obtain ⟨k, hk, rfl, rfl, H⟩ := hrel
    by_cases h1 : k < n
    · have hz' := hz k h1
      have hc' := hc k h1
      have e1 : longF f k (n - k) = (decide (500 < ((f k).size : Int)) || longF f (k + 1) (n - (k + 1))) := by
        rw [show n - k = (n - (k + 1)) + 1 by omega]; rfl
      cases hd : decide (500 < ((f k).size : Int))
      · go_wp2
        go_roundw
        case rel => exact ⟨k + 1, h1, by go_num, trivial, by have := H.out; rw [e1, hd] at this; exact this⟩
        case measure => simp [intOf]; omega
      · go_wp2
        go_ret
        exact ⟨ret_of (bool_eq (by rw [← H.out, e1, hd]; rfl)), rfl⟩
    · go_wp2
      go_ret
      exact ⟨ret_of (bool_eq (by rw [← H.out, show n - k = 0 by omega]; rfl)), rfl⟩

def soB (a : Vl) : Bool := a.k != 0 && !sameB a ⟨1, 0, sNone⟩
end Go.Proofs.YtidjibghicejaaaDoor
