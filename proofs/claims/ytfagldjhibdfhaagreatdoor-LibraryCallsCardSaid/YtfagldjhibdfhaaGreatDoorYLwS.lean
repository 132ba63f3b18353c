/- LibraryReps: the walk. -/
import Derived.Test.YtfagldjhibdfhaaGreatDoorYLwR
namespace Go.Proofs.YtfagldjhibdfhaaGreatDoor
open Go.RowKit
set_option linter.unusedVariables false
set_option linter.unusedSimpArgs false

theorem blk_vals {w : World} {k : Nat} {cs : Array Value} {l : List Vl} (hb : Blk w k 26 cs) (hcs : cs = (flat l).toArray) : ValsAt w (some ⟨k, 0, none⟩) l := fun i x hx => by
 subst hcs
 obtain ⟨g1, g2, g3⟩ := flat_get l i x hx
 refine ⟨k, 0, rfl, ?_, ?_, ?_⟩
 ·rw [hb.cell]; simpa using g1
 ·rw [hb.cell]; simpa using g2
 ·rw [hb.cell]; simpa using g3
set_option maxRecDepth 100000 in
set_option maxHeartbeats 4000000 in
theorem law_reps (w : World) (s : ByteArray) (n c : Int) (hs : s.size ≤ maxLen) (hn : in64 n) (hc : in64 c) (hL : LLaid w) :
  Calls Tryz.prog 9 #[.string s, .int .i64 n, .int .i64 c] w fun e w' => e = .returned (.bool true) ∧ Ext w w' := by
 have HL := Lib.hid hL
 have mx : maxLen ≤ 9223372036854775807 := by decide
 have HS : Hid (s.size ≤ 9223372036854775807) := Lib.hid (by omega)
 obtain ⟨m, hm⟩ : ∃ m, s.size = m := ⟨_, rfl⟩
 rw [hm] at hs
 have hmI : (m : Int) ≤ 9223372036854775807 := by omega
 have HN := Lib.hid hn
 have HC := Lib.hid hc
 have V := Lib.hid (VB.nil w)
 clear hL hn hc mx hs
 go_enter Tryz.func9, Tryz.ntmps9
 by_cases hbig : (3000 : Int) < (m : Int)
 ·have t1 : decide ((3000 : Int) < (m : Int)) = true := decide_eq_true hbig
  have t2 : decide (3000 < m) = true := decide_eq_true (by omega)
  clear hbig
  go_wp2_with fail
  refine (text_any _ _).mono ?_
  rintro e w1 ⟨rfl, e1⟩
  replace V := Lib.hid (V.out.ext' e1)
  clear e1
  go_wp2_with fail
  refine (int_any _ _).mono ?_
  rintro e w2 ⟨rfl, e2⟩
  replace V := Lib.hid ((V.out.ext' e2).ext.alloc (.cells #[.int .i64 3, .int .i64 0, .string s, .int .i64 2, .int .i64 n, .string ⟨#[]⟩] 26))
  clear e2
  go_wp2_with fail
  refine (works_any _ (HL.out.ext V.out)).mono ?_
  rintro e w5 ⟨rfl, e5⟩
  have E5 := Lib.hid (V.out.trans e5)
  clear e5
  go_wp2_with fail
  go_ret
  exact ⟨rfl, E5.out⟩
 have t1 : decide ((3000 : Int) < (m : Int)) = false := decide_eq_false hbig
 have t2 : decide (3000 < m) = false := decide_eq_false (by omega)
 clear hbig
 go_wp2_with fail
 refine (text_any _ _).mono ?_
 rintro e w1 ⟨rfl, e1⟩
 replace V := Lib.hid (V.out.ext' e1)
 clear e1
 go_wp2_with fail
 refine (int_any _ _).mono ?_
 rintro e w2 ⟨rfl, e2⟩
 replace V := Lib.hid ((V.out.ext' e2).new w2.heap.size rfl 26 #[.int .i64 3, .int .i64 0, .string s, .int .i64 2, .int .i64 n, .string ⟨#[]⟩])
 clear e2
 go_wp2_with fail
 have HH := heavy_some ⟨#[114, 101, 112]⟩ (some ⟨w2.heap.size, 0, none⟩) [⟨3, 0, s⟩, ⟨2, n, ⟨#[]⟩⟩] 2 _ (blk_vals (V.out.row _ (List.mem_cons_self ..)) rfl) (fun x hx => by
  rcases List.mem_cons.1 hx with rfl | hx
  ·exact HS.out
  ·rcases List.mem_cons.1 hx with rfl | hx
   ·show (0 : Nat) ≤ _; exact Nat.zero_le _
   ·exact (List.not_mem_nil hx).elim)
 refine (show Calls Tryz.prog 22 #[.string ⟨#[114, 101, 112]⟩, .slice (some ⟨w2.heap.size, 0, none⟩) 2 2] _ _ from HH).mono ?_
 clear HH
 rintro e w3 ⟨⟨b, rfl⟩, e3⟩
 replace V := Lib.hid (V.out.ext' e3)
 clear e3 t1 t2
 cases b with
 | true =>
  go_wp2_with fail
  refine (works_any _ (HL.out.ext V.out.ext)).mono ?_
  rintro e w5 ⟨rfl, e5⟩
  have E5 := Lib.hid (V.out.ext.trans e5)
  clear e5
  go_wp2_with fail
  go_ret
  exact ⟨rfl, E5.out⟩
 | false =>
  go_wp2_with fail
  refine (asks0 _ (HL.out.ext V.out.ext) c HC.out ⟨#[114, 101, 112]⟩ w2.heap.size 2 _ [⟨3, 0, s⟩, ⟨2, n, ⟨#[]⟩⟩] (V.out.row _ (List.mem_cons_self ..)) rfl rfl (by decide) (n2 in64_0 HN.out)).mono ?_
  rintro e w4 ⟨rfl, e4⟩
  replace V := Lib.hid (V.out.ext' e4)
  clear e4
  go_wp2_with fail
  refine (works_any _ (HL.out.ext V.out.ext)).mono ?_
  rintro e w5 ⟨rfl, e5⟩
  have E5 := Lib.hid (V.out.ext.trans e5)
  clear e5
  go_wp2_with fail
  go_ret
  exact ⟨rfl, E5.out⟩
end Go.Proofs.YtfagldjhibdfhaaGreatDoor
