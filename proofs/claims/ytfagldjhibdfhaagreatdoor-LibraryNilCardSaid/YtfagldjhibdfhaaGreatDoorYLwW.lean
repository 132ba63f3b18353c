/- LibraryNil: the walk. -/
import Derived.Test.YtfagldjhibdfhaaGreatDoorYLwU
import Derived.Test.YtfagldjhibdfhaaGreatDoorYD7
namespace Go.Proofs.YtfagldjhibdfhaaGreatDoor
open Go.RowKit
set_option linter.unusedVariables false
set_option linter.unusedSimpArgs false
set_option maxRecDepth 100000 in
set_option maxHeartbeats 4000000 in
theorem law_nil (w : World) (name : ByteArray) (q : Option Addr) (l : List Vl) (cap : Nat) (hl : ValsAt w q l) (hn : l.length ≤ maxLen) (hs : ∀ x ∈ l, x.s.size ≤ maxLen) (hL : LLaid w) :
  Calls Tryz.prog 4 #[.string name, .slice q l.length cap] w fun e w' => e = .returned (.bool true) ∧ Ext w w' := by
 have HL := Lib.hid hL
 have mx : maxLen ≤ 9223372036854775807 := by decide
 have HS : Hid (∀ x ∈ l, x.s.size ≤ 9223372036854775807) := Lib.hid (fun x hx => Nat.le_trans (hs x hx) mx)
 obtain ⟨m, hm⟩ : ∃ m, l.length = m := ⟨_, rfl⟩
 have HM := Lib.hid hm
 have HV := Lib.hid hl
 have E := Lib.hid (Ext.refl w)
 rw [hm] at hn ⊢
 have hmI : (m : Int) ≤ 9223372036854775807 := by omega
 clear hL mx hs hl hm
 go_enter Tryz.func4, Tryz.ntmps4
 by_cases hbig : (300 : Int) < (m : Int)
 ·have t1 : decide ((300 : Int) < (m : Int)) = true := decide_eq_true hbig
  have t2 : decide (300 < m) = true := decide_eq_true (by omega)
  clear hbig
  go_wp2_with fail
  refine (works_any _ (HL.out.ext E.out)).mono ?_
  rintro e w5 ⟨rfl, e5⟩
  have E5 := Lib.hid (E.out.trans e5)
  clear e5
  go_wp2_with fail
  go_ret
  exact ⟨rfl, E5.out⟩
 have t1 : decide ((300 : Int) < (m : Int)) = false := decide_eq_false hbig
 have t2 : decide (300 < m) = false := decide_eq_false (by omega)
 have hm3 : m ≤ 1000000000 := by omega
 clear hbig
 go_wp2_with fail
 have HH := size_some q l cap 0 w HV.out (by rw [HM.out]; exact hm3)
 rw [HM.out] at HH
 refine HH.mono ?_
 clear HH
 rintro e w1 ⟨⟨z, rfl⟩, rfl⟩
 by_cases hz : 3000 < z
 ·have t3 : decide (3000 < z) = true := decide_eq_true hz
  go_wp2_with fail
  refine (works_any _ (HL.out.ext E.out)).mono ?_
  rintro e w5 ⟨rfl, e5⟩
  have E5 := Lib.hid (E.out.trans e5)
  clear e5
  go_wp2_with fail
  go_ret
  exact ⟨rfl, E5.out⟩
 have t3 : decide (3000 < z) = false := decide_eq_false hz
 clear hz
 go_wp2_with fail
 have HH := heavy_some name q l cap w HV.out HS.out
 rw [HM.out] at HH
 refine HH.mono ?_
 clear HH
 rintro e w3 ⟨⟨b, rfl⟩, e3⟩
 replace E := Lib.hid (E.out.trans e3)
 clear e3 t1 t2 t3
 cases b with
 | true =>
  go_wp2_with fail
  refine (works_any _ (HL.out.ext E.out)).mono ?_
  rintro e w5 ⟨rfl, e5⟩
  have E5 := Lib.hid (E.out.trans e5)
  clear e5
  go_wp2_with fail
  go_ret
  exact ⟨rfl, E5.out⟩
 | false =>
  go_wp2_with fail
  obtain ⟨f, hf⟩ : ∃ f, libIdx name = f := ⟨_, rfl⟩
  cases f with
  | none =>
   refine (call_none _ _ name _ _ _ hf).mono ?_
   rintro e w4 ⟨rfl, e4⟩
   replace E := Lib.hid (E.out.trans e4)
   clear e4
   have hB : callB name = false := by simp [callB, hf]
   have z1 : Vl.zero.k = 0 := rfl
   have z2 : Vl.zero.n = 0 := rfl
   have z3 : Vl.zero.s.toList = [] := by show (⟨#[]⟩ : ByteArray).toList = []; rw [Lib.toList_data]
   have z4 : (sNone.toList == [109, 101, 109, 111, 114, 121]) = false := by rw [Lib.toList_data]; rfl
   go_wp2_with fail
   refine (rhas_any _ _).mono ?_
   rintro e w5 ⟨rfl, e5⟩
   replace E := Lib.hid ((E.out.alloc _).trans e5)
   clear e5
   rw [hB]
   go_wp2_with fail
   refine (rhas_any _ _).mono ?_
   rintro e w6 ⟨rfl, e6⟩
   replace E := Lib.hid (E.out.trans e6)
   clear e6
   rw [hB]
   go_wp2_with fail
   refine (works_any _ (HL.out.ext E.out)).mono ?_
   rintro e w7 ⟨rfl, e7⟩
   replace E := Lib.hid (E.out.trans e7)
   clear e7
   go_wp2_with fail
   go_ret
   exact ⟨rfl, E.out⟩
  | some f =>
   refine (call_nil _ name f hf _ _ _).mono ?_
   rintro e w4 ⟨rfl, e4⟩
   replace E := Lib.hid (E.out.trans e4)
   clear e4
   have hB : callB name = true := by simp [callB, hf]
   have z1 : Vl.zero.k = 0 := rfl
   have z2 : Vl.zero.n = 0 := rfl
   have z3 : Vl.zero.s.toList = [] := by show (⟨#[]⟩ : ByteArray).toList = []; rw [Lib.toList_data]
   have z5 : sMemory.toList.isEmpty = false := by rw [Lib.toList_data]; rfl
   have z6 : ¬ sMemory.toList = [] := by rw [Lib.toList_data]; decide
   have z4 : (sMemory.toList == [109, 101, 109, 111, 114, 121]) = true := by rw [Lib.toList_data]; rfl
   go_wp2_with fail
   refine (rhas_any _ _).mono ?_
   rintro e w5 ⟨rfl, e5⟩
   replace E := Lib.hid ((E.out.alloc _).trans e5)
   clear e5
   rw [hB]
   go_wp2_with fail
   refine (rhas_any _ _).mono ?_
   rintro e w6 ⟨rfl, e6⟩
   replace E := Lib.hid (E.out.trans e6)
   clear e6
   rw [hB]
   go_wp2_with fail
   refine (works_any _ (HL.out.ext E.out)).mono ?_
   rintro e w7 ⟨rfl, e7⟩
   replace E := Lib.hid (E.out.trans e7)
   clear e7
   go_wp2_with fail
   go_ret
   exact ⟨rfl, E.out⟩
end Go.Proofs.YtfagldjhibdfhaaGreatDoor
