/- Laws of one or two texts and numbers: LibrarySubs. -/
import Derived.Test.YtfagldjhibdfhaaGreatDoorYE4
namespace Go.Proofs.YtfagldjhibdfhaaGreatDoor
open Go.RowKit
set_option linter.unusedVariables false
set_option linter.unusedSimpArgs false

/-- Blocks of the call's own. -/
structure VB (w0 w : World) (L : List (Nat × TypeId × Array Value)) : Prop where
 ext : Ext w0 w
 row : ∀ p ∈ L, Blk w p.1 p.2.1 p.2.2
theorem VB.nil (w : World) : VB w w [] := ⟨Ext.refl w, fun p hp => (List.not_mem_nil hp).elim⟩
theorem VB.ext' {w0 w w' : World} {L : List (Nat × TypeId × Array Value)} (h : VB w0 w L) (he : Ext w w') : VB w0 w' L := ⟨h.ext.trans he, fun p hp => (h.row p hp).ext he⟩
theorem VB.new {w0 w : World} {L : List (Nat × TypeId × Array Value)} (h : VB w0 w L) (k : Nat) (hk : k = w.heap.size) (t : TypeId) (cs : Array Value) : VB w0 (w.alloc (.cells cs t)) ((k, t, cs) :: L) := by
 subst hk
 refine ⟨h.ext.alloc _, fun p hp => ?_⟩
 rcases List.mem_cons.1 hp with rfl | hp
 ·exact Blk.new _ _ _
 ·exact (h.row p hp).alloc _
/-- asks, at arguments of the call's own and a world without tables. -/
theorem asks0 (w : World) (hL : LLaid w) (c : Int) (hc : in64 c) (name : ByteArray) (k n : Nat) (cs : Array Value) (l : List Vl) (hb : Blk w k 26 cs) (hcs : cs = (flat l).toArray) (hl : l.length = n) (hn : n ≤ 1000) (hx : ∀ x ∈ l, in64 x.n) :
  Calls Tryz.prog 34 #[.agg #[.int .i64 c, .slice none 0 0], .string name, .slice (some ⟨k, 0, none⟩) n n] w fun e w' => e = .returned (.bool true) ∧ Ext w w' := by
 subst hcs hl
 exact asks_any w hL c none 0 [] ⟨hc, by decide, fun T hT => (List.not_mem_nil hT).elim⟩ (fun i T hT => by simp at hT) name (some ⟨k, 0, none⟩) l l.length (fun i x hx => by
  obtain ⟨g1, g2, g3⟩ := flat_get l i x hx
  refine ⟨k, 0, rfl, ?_, ?_, ?_⟩
  ·rw [hb.cell]; simpa using g1
  ·rw [hb.cell]; simpa using g2
  ·rw [hb.cell]; simpa using g3) hn hx (fun h => by cases h)
theorem in64_0 : in64 0 := ⟨by decide, by decide⟩
theorem in64_1000 : in64 1000 := ⟨by decide, by decide⟩
theorem n1 {a : Vl} (ha : in64 a.n) : ∀ x ∈ [a], in64 x.n := fun x hx => by
 rcases List.mem_cons.1 hx with rfl | hx
 ·exact ha
 ·exact (List.not_mem_nil hx).elim
theorem n2 {a b : Vl} (ha : in64 a.n) (hb : in64 b.n) : ∀ x ∈ [a, b], in64 x.n := fun x hx => by
 rcases List.mem_cons.1 hx with rfl | hx
 ·exact ha
 ·exact n1 hb x hx
theorem n3 {a b c : Vl} (ha : in64 a.n) (hb : in64 b.n) (hc : in64 c.n) : ∀ x ∈ [a, b, c], in64 x.n := fun x hx => by
 rcases List.mem_cons.1 hx with rfl | hx
 ·exact ha
 ·exact n2 hb hc x hx
set_option maxRecDepth 100000 in
set_option maxHeartbeats 4000000 in
theorem law_subs (w : World) (s : ByteArray) (f u : Int) (hs : s.size ≤ maxLen) (hf : in64 f) (hu : in64 u) (hL : LLaid w) :
  Calls Tryz.prog 8 #[.string s, .int .i64 f, .int .i64 u] w fun e w' => e = .returned (.bool true) ∧ Ext w w' := by
 have HL := Lib.hid hL
 have mx : maxLen ≤ 9223372036854775807 := by decide
 obtain ⟨m, hm⟩ : ∃ m, s.size = m := ⟨_, rfl⟩
 rw [hm] at hs
 have hmI : (m : Int) ≤ 9223372036854775807 := by omega
 have HF := Lib.hid hf
 have HU := Lib.hid hu
 clear hL hf hu mx hs
 go_enter Tryz.func8, Tryz.ntmps8
 by_cases hbig : (3000 : Int) < (m : Int)
 ·have t1 : decide ((3000 : Int) < (m : Int)) = true := decide_eq_true hbig
  have t2 : decide (3000 < m) = true := decide_eq_true (by omega)
  go_wp2_with fail
  refine (works_any _ HL.out).mono ?_
  rintro e w5 ⟨rfl, e5⟩
  have E5 := Lib.hid e5
  clear e5
  go_wp2_with fail
  go_ret
  exact ⟨rfl, E5.out⟩
 have t1 : decide ((3000 : Int) < (m : Int)) = false := decide_eq_false hbig
 have t2 : decide (3000 < m) = false := decide_eq_false (by omega)
 have V := Lib.hid ((VB.nil w).new w.heap.size rfl 41 #[.int .i64 1000, .slice none 0 0])
 go_wp2_with fail
 clear t1 t2 hbig
 refine (text_any _ _).mono ?_
 rintro e w1 ⟨rfl, e1⟩
 replace V := Lib.hid (V.out.ext' e1)
 clear e1
 go_wp2_with fail
 refine (int_any _ _).mono ?_
 rintro e w2 ⟨rfl, e2⟩
 replace V := Lib.hid (V.out.ext' e2)
 clear e2
 go_wp2_with fail
 refine (int_any _ _).mono ?_
 rintro e w3 ⟨rfl, e3⟩
 replace V := Lib.hid (V.out.ext' e3)
 clear e3
 have hba : Blk w3 (w.heap.size) 41 #[.int .i64 1000, .slice none 0 0] := V.out.row (w.heap.size, 41, #[.int .i64 1000, .slice none 0 0]) (by simp)
 have a0 := hba.cell 0
 have a1 := hba.cell 1
 have hla := hba.lt
 simp only [List.getElem?_toArray, List.getElem?_cons_zero, List.getElem?_cons_succ] at a0 a1
 clear hba
 have hma : w.heap.size < w3.heap.size + 1 := by omega
 have hna : w.heap.size < w3.heap.size + 1 + 1 := by omega
 have hoa : w.heap.size < w3.heap.size + 1 + 1 + 1 := by omega
 go_wp2_with fail
 clear a0 a1 hla hma hna hoa
 replace V := Lib.hid (V.out.new (w3.heap.size) (by simp) 26 #[.int .i64 3, .int .i64 0, .string s])
 replace V := Lib.hid (V.out.new (w3.heap.size + 1) (by simp) 26 #[.int .i64 2, .int .i64 f, .string ⟨#[]⟩])
 replace V := Lib.hid (V.out.new (w3.heap.size + 1 + 1) (by simp) 26 #[.int .i64 2, .int .i64 u, .string ⟨#[]⟩])
 replace V := Lib.hid (V.out.new (w3.heap.size + 1 + 1 + 1) (by simp) 26 #[.int .i64 3, .int .i64 0, .string s, .int .i64 2, .int .i64 f, .string ⟨#[]⟩, .int .i64 2, .int .i64 u, .string ⟨#[]⟩])
 obtain ⟨B7, hB7⟩ : ∃ B7, w.heap.size = B7 := ⟨_, rfl⟩
 obtain ⟨B8, hB8⟩ : ∃ B8, w3.heap.size = B8 := ⟨_, rfl⟩
 rw [hB7, hB8] at V
 rw [hB7, hB8]
 clear hB7 hB8
 refine (asks0 _ (HL.out.ext V.out.ext) 1000 in64_1000 ⟨#[115, 117, 98]⟩ (B8 + 1 + 1 + 1) 3 _ [⟨3, 0, s⟩, ⟨2, f, ⟨#[]⟩⟩, ⟨2, u, ⟨#[]⟩⟩] (V.out.row _ (List.mem_cons_self ..)) rfl rfl (by decide) (n3 in64_0 HF.out HU.out)).mono ?_
 rintro e wA ⟨rfl, eA⟩
 replace V := Lib.hid (V.out.ext' eA)
 clear eA
 have hba : Blk wA (B7) 41 #[.int .i64 1000, .slice none 0 0] := V.out.row (B7, 41, #[.int .i64 1000, .slice none 0 0]) (by simp)
 have a0 := hba.cell 0
 have a1 := hba.cell 1
 have hla := hba.lt
 simp only [List.getElem?_toArray, List.getElem?_cons_zero, List.getElem?_cons_succ] at a0 a1
 clear hba
 have hma : B7 < wA.heap.size + 1 := by omega
 have hna : B7 < wA.heap.size + 1 + 1 := by omega
 have hoa : B7 < wA.heap.size + 1 + 1 + 1 := by omega
 have hbb : Blk wA (B8) 26 #[.int .i64 3, .int .i64 0, .string s] := V.out.row (B8, 26, #[.int .i64 3, .int .i64 0, .string s]) (by simp)
 have b0 := hbb.cell 0
 have b1 := hbb.cell 1
 have b2 := hbb.cell 2
 have hlb := hbb.lt
 simp only [List.getElem?_toArray, List.getElem?_cons_zero, List.getElem?_cons_succ] at b0 b1 b2
 clear hbb
 have hmb : B8 < wA.heap.size + 1 := by omega
 have hnb : B8 < wA.heap.size + 1 + 1 := by omega
 have hob : B8 < wA.heap.size + 1 + 1 + 1 := by omega
 have hbc : Blk wA (B8 + 1) 26 #[.int .i64 2, .int .i64 f, .string ⟨#[]⟩] := V.out.row (B8 + 1, 26, #[.int .i64 2, .int .i64 f, .string ⟨#[]⟩]) (by simp)
 have c0 := hbc.cell 0
 have c1 := hbc.cell 1
 have c2 := hbc.cell 2
 have hlc := hbc.lt
 simp only [List.getElem?_toArray, List.getElem?_cons_zero, List.getElem?_cons_succ] at c0 c1 c2
 clear hbc
 have hmc : B8 + 1 < wA.heap.size + 1 := by omega
 have hnc : B8 + 1 < wA.heap.size + 1 + 1 := by omega
 have hoc : B8 + 1 < wA.heap.size + 1 + 1 + 1 := by omega
 have hbd : Blk wA (B8 + 1 + 1) 26 #[.int .i64 2, .int .i64 u, .string ⟨#[]⟩] := V.out.row (B8 + 1 + 1, 26, #[.int .i64 2, .int .i64 u, .string ⟨#[]⟩]) (by simp)
 have d0 := hbd.cell 0
 have d1 := hbd.cell 1
 have d2 := hbd.cell 2
 have hld := hbd.lt
 simp only [List.getElem?_toArray, List.getElem?_cons_zero, List.getElem?_cons_succ] at d0 d1 d2
 clear hbd
 have hmd : B8 + 1 + 1 < wA.heap.size + 1 := by omega
 have hnd : B8 + 1 + 1 < wA.heap.size + 1 + 1 := by omega
 have hod : B8 + 1 + 1 < wA.heap.size + 1 + 1 + 1 := by omega
 go_wp2_with fail
 clear a0 a1 hla hma hna hoa b0 b1 b2 hlb hmb hnb hob c0 c1 c2 hlc hmc hnc hoc d0 d1 d2 hld hmd hnd hod
 replace V := Lib.hid (V.out.new (wA.heap.size) rfl 26 #[.int .i64 3, .int .i64 0, .string s, .int .i64 2, .int .i64 f, .string ⟨#[]⟩])
 refine (asks0 _ (HL.out.ext V.out.ext) 1000 in64_1000 ⟨#[115, 117, 98]⟩ (wA.heap.size) 2 _ [⟨3, 0, s⟩, ⟨2, f, ⟨#[]⟩⟩] (V.out.row _ (List.mem_cons_self ..)) rfl rfl (by decide) (n2 in64_0 HF.out)).mono ?_
 rintro e wB ⟨rfl, ewB⟩
 replace V := Lib.hid (V.out.ext' ewB)
 clear ewB
 have hba : Blk wB (B7) 41 #[.int .i64 1000, .slice none 0 0] := V.out.row (B7, 41, #[.int .i64 1000, .slice none 0 0]) (by simp)
 have a0 := hba.cell 0
 have a1 := hba.cell 1
 have hla := hba.lt
 simp only [List.getElem?_toArray, List.getElem?_cons_zero, List.getElem?_cons_succ] at a0 a1
 clear hba
 have hma : B7 < wB.heap.size + 1 := by omega
 have hna : B7 < wB.heap.size + 1 + 1 := by omega
 have hoa : B7 < wB.heap.size + 1 + 1 + 1 := by omega
 have hbb : Blk wB (B8) 26 #[.int .i64 3, .int .i64 0, .string s] := V.out.row (B8, 26, #[.int .i64 3, .int .i64 0, .string s]) (by simp)
 have b0 := hbb.cell 0
 have b1 := hbb.cell 1
 have b2 := hbb.cell 2
 have hlb := hbb.lt
 simp only [List.getElem?_toArray, List.getElem?_cons_zero, List.getElem?_cons_succ] at b0 b1 b2
 clear hbb
 have hmb : B8 < wB.heap.size + 1 := by omega
 have hnb : B8 < wB.heap.size + 1 + 1 := by omega
 have hob : B8 < wB.heap.size + 1 + 1 + 1 := by omega
 have hbc : Blk wB (B8 + 1) 26 #[.int .i64 2, .int .i64 f, .string ⟨#[]⟩] := V.out.row (B8 + 1, 26, #[.int .i64 2, .int .i64 f, .string ⟨#[]⟩]) (by simp)
 have c0 := hbc.cell 0
 have c1 := hbc.cell 1
 have c2 := hbc.cell 2
 have hlc := hbc.lt
 simp only [List.getElem?_toArray, List.getElem?_cons_zero, List.getElem?_cons_succ] at c0 c1 c2
 clear hbc
 have hmc : B8 + 1 < wB.heap.size + 1 := by omega
 have hnc : B8 + 1 < wB.heap.size + 1 + 1 := by omega
 have hoc : B8 + 1 < wB.heap.size + 1 + 1 + 1 := by omega
 have hbd : Blk wB (B8 + 1 + 1) 26 #[.int .i64 2, .int .i64 u, .string ⟨#[]⟩] := V.out.row (B8 + 1 + 1, 26, #[.int .i64 2, .int .i64 u, .string ⟨#[]⟩]) (by simp)
 have d0 := hbd.cell 0
 have d1 := hbd.cell 1
 have d2 := hbd.cell 2
 have hld := hbd.lt
 simp only [List.getElem?_toArray, List.getElem?_cons_zero, List.getElem?_cons_succ] at d0 d1 d2
 clear hbd
 have hmd : B8 + 1 + 1 < wB.heap.size + 1 := by omega
 have hnd : B8 + 1 + 1 < wB.heap.size + 1 + 1 := by omega
 have hod : B8 + 1 + 1 < wB.heap.size + 1 + 1 + 1 := by omega
 go_wp2_with fail
 clear a0 a1 hla hma hna hoa b0 b1 b2 hlb hmb hnb hob c0 c1 c2 hlc hmc hnc hoc d0 d1 d2 hld hmd hnd hod
 replace V := Lib.hid (V.out.new (wB.heap.size) rfl 26 #[.int .i64 3, .int .i64 0, .string s, .int .i64 2, .int .i64 u, .string ⟨#[]⟩])
 refine (asks0 _ (HL.out.ext V.out.ext) 1000 in64_1000 ⟨#[98, 121, 116, 101]⟩ (wB.heap.size) 2 _ [⟨3, 0, s⟩, ⟨2, u, ⟨#[]⟩⟩] (V.out.row _ (List.mem_cons_self ..)) rfl rfl (by decide) (n2 in64_0 HU.out)).mono ?_
 rintro e wC ⟨rfl, ewC⟩
 replace V := Lib.hid (V.out.ext' ewC)
 clear ewC
 go_wp2_with fail
 refine (works_any _ (HL.out.ext V.out.ext)).mono ?_
 rintro e wF ⟨rfl, eF⟩
 replace V := Lib.hid (V.out.ext' eF)
 clear eF
 go_wp2_with fail
 go_ret
 exact ⟨rfl, V.out.ext⟩
end Go.Proofs.YtfagldjhibdfhaaGreatDoor
