/- size tells some number; LibraryNil. -/
import Derived.Test.YtfagldjhibdfhaaGreatDoorYLwS
import Derived.Test.YtfagldjhibdfhaaGreatDoorYLc3
namespace Go.Proofs.YtfagldjhibdfhaaGreatDoor
open Go.RowKit
set_option linter.unusedVariables false
set_option linter.unusedSimpArgs false

def SzE (w : World) (e : Ending) (w' : World) : Prop := (∃ z, e = .returned (.int .i64 z)) ∧ w = w'
set_option maxRecDepth 100000 in
set_option maxHeartbeats 4000000 in
theorem size_some (q : Option Addr) (l : List Vl) (c : Nat) (z : Int) (w : World) (hl : ValsAt w q l) (hn : l.length ≤ 1000000000) : Calls Tryz.prog 21 #[.slice q l.length c, .int .i64 z] w (SzE w) := by
 obtain ⟨m, hm⟩ : ∃ m, l.length = m := ⟨_, rfl⟩
 have HM := Lib.hid hm
 have HV := Lib.hid hl
 rw [hm] at hn ⊢
 have hmI : (m : Int) ≤ 1000000000 := by omega
 clear hl hm
 go_enter Tryz.func21, Tryz.ntmps21
 go_wp2_with fail
 go_loopw [1, 5] (fun s1 s5 wr => ∃ (i : Nat) (z : Int), s1 = .int .i64 z ∧ s5 = .int .i64 (i : Int) ∧ i ≤ m ∧ wr = w) (fun _ s5 _ => m - (intOf s5).toNat)
 case atStart => exact ⟨0, z, rfl, rfl, Nat.zero_le _, rfl⟩
 case round =>
  obtain ⟨i, z, rfl, rfl, hi, rfl⟩ := hrel
  by_cases hlt : i < m
  ·have hd : decide ((i : Int) < (m : Int)) = true := decide_eq_true (by omega)
   have hd' : decide (i < m) = true := decide_eq_true hlt
   have hltI : (i : Int) < (m : Int) := by omega
   have hi0 : (0 : Int) ≤ (i : Int) := by omega
   by_cases hz : z ≤ 3000
   ·have t1 : decide (z ≤ 3000) = true := decide_eq_true hz
    obtain ⟨x, hx⟩ : ∃ x, l[i]? = some x := ⟨_, List.getElem?_eq_getElem (by have := HM.out; omega)⟩
    obtain ⟨b, o, rfl, ax⟩ := HV.out i x hx
    have h2 := ax.s
    have hb := ax.lt
    obtain ⟨xk, xn, xs⟩ := x
    simp only at h2
    clear hx ax hz
    go_wp2_with fail
    go_roundw
    case rel => exact ⟨i + 1, _, rfl, by go_num, by omega, by first | rfl | trivial⟩
    case measure => simp [intOf]; omega
   ·have t1 : decide (z ≤ 3000) = false := decide_eq_false hz
    go_wp2_with fail
    go_ret
    exact ⟨⟨_, rfl⟩, rfl⟩
  ·obtain rfl : i = m := by omega
   have hd : decide ((i : Int) < (i : Int)) = false := decide_eq_false (by omega)
   have hd' : decide (i < i) = false := decide_eq_false (by omega)
   go_wp2_with fail
   go_ret
   exact ⟨⟨_, rfl⟩, rfl⟩
end Go.Proofs.YtfagldjhibdfhaaGreatDoor
