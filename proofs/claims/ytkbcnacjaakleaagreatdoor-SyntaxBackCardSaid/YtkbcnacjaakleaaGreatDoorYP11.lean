/- Words: the word that stands ahead, in the program. Words: the words of a text one by one, as the program goes over them. -/
import Derived.Test.YtkbcnacjaakleaaGreatDoorYP10
import Derived.Test.YtkbcnacjaakleaaGreatDoorYP09
import Derived.Test.YtkbcnacjaakleaaGreatDoorYP08
import Derived.Shelf.Abstract
import Derived.Shelf.RegionOpen
import Derived.WalkKit
import Derived.OwnWalkIn
import Derived.TacticsInMore
import Derived.LoopNIn
import Derived.LoopIn
set_option maxRecDepth 100000
set_option maxHeartbeats 32000000
set_option linter.unusedVariables false
set_option linter.unusedSimpArgs false
namespace Go.Proofs.YtkbcnacjaakleaaGreatDoor
open Go.RowKit

def wdV (k n a : Int) (t : ByteArray) : Value := .agg #[.int .i64 k, .string t, .int .i64 n, .int .i64 a]
def Wd.v (x : Wd) : Value := wdV x.k x.n x.a ⟨x.t.toArray⟩
def wrdV : Option (Wd × Nat) → Value
 | none => .tuple #[wdV 0 0 0 ⟨#[]⟩, .int .i64 0]
 | some (x, n) => .tuple #[x.v, .int .i64 (n : Int)]
theorem str_of {s : ByteArray} {l : List UInt8} (h : s.data.toList = l) : s = ⟨l.toArray⟩ := by
 apply ByteArray.ext
 apply Array.ext'
 rw [h]
theorem word_let_any (w : World) (s : ByteArray) (l : List UInt8) (hl : s.data.toList = l) (n : Nat) (hn : runP l = n) (h0 : 0 < n) (hlet : headB letB l = true) (hmax : s.size ≤ 140737488355000) (hL : Laid w) :
  Calls Tryz.prog 174 #[.string s] w fun e w' => e = .returned (wrdV (wordP l)) ∧ Ext w w' := by
 have hln : n ≤ l.length := by rw [← hn]; exact run_len l
 have hsz : l.length = s.size := by rw [← hl]; rfl
 have hs0 : 0 < s.size := by omega
 have hns : n ≤ s.size := by omega
 obtain ⟨c, hc⟩ : ∃ c, s[0]'hs0 = c := ⟨_, rfl⟩
 have hcl : letB c = true := by
  rw [head_get (by omega)] at hlet
  rw [← hlet, ← hc, ← str_get s 0 hs0]; congr 1; exact get_of hl _
 have HW : Hid (wordP l = if keyB (l.take n) = true then some (⟨1, l.take n, 0, 0⟩, n) else if nameP (l.take n) = true then some (⟨0, l.take n, 0, 0⟩, n) else none) := Lib.hid (by
  unfold wordP; rw [hn, if_pos h0, if_pos hlet])
 have hex : (s.extract 0 n).data.toList = l.take n := by rw [Lib.extract_data, hl, List.drop_zero, Nat.sub_zero]
 have HX := Lib.hid hex
 have HL := Lib.hid hL
 have HLL := Lib.hid hl
 have HN := Lib.hid hn
 have HC := Lib.hid hcl
 have dn : decide ((0 : Int) < (n : Int)) = true := decide_eq_true (by omega)
 have dnn : decide (0 < n) = true := decide_eq_true h0
 have HSZ := Lib.hid hsz
 clear hl hn hlet hL hex hcl hsz
 go_enter Tryz.func174, Tryz.ntmps174
 go_wp2_with fail
 refine wp_scope_fwd 0 rfl ?_
 go_wp2_with fail
 refine (run_any _ s (by omega)).mono ?_
 rintro e w' ⟨rfl, rfl⟩
 rw [HLL.out, HN.out]
 go_wp2_with fail
 refine (letter_any _ c).mono ?_
 rintro e w' ⟨rfl, rfl⟩
 rw [HC.out]
 go_wp2_with fail
 obtain ⟨W0, hW0⟩ : ∃ W0, (w.alloc (.cells #[.int .i64 0, .string ⟨#[]⟩, .int .i64 0, .int .i64 0] 138)).alloc (.cells #[.int .i64 0, .string (s.extract 0 n), .int .i64 0, .int .i64 0] 138) = W0 := ⟨_, rfl⟩
 have b0 : Hid (Blk W0 w.heap.size 138 #[.int .i64 0, .string ⟨#[]⟩, .int .i64 0, .int .i64 0]) := Lib.hid (by rw [← hW0]; exact (Blk.new w _ _).alloc _)
 have b1 : Hid (Blk W0 (w.heap.size + 1) 138 #[.int .i64 0, .string (s.extract 0 n), .int .i64 0, .int .i64 0]) := Lib.hid (by rw [← hW0]; exact new_at (size_alloc _ _).symm _)
 have HE0 : Hid (Ext w W0) := Lib.hid (by rw [← hW0]; exact ((Ext.refl w).alloc _).alloc _)
 rw [hW0]
 clear hW0
 have HL0 := Lib.hid (HL.out.ext HE0.out)
 have x1 : W0.cell? ⟨w.heap.size + 1, 1, none⟩ = some (.string (s.extract 0 n)) := b1.out.cell 1
 obtain ⟨kb, hkb⟩ : ∃ kb, keyB (l.take n) = kb := ⟨_, rfl⟩
 have hk := any_keyW (s.extract 0 n)
 rw [HX.out, hkb] at hk
 have HKB := Lib.hid hkb
 have HKW := Lib.hid hk
 clear hkb hk
 have HW2 := HW.out
 rw [HKB.out] at HW2
 have HWP := Lib.hid HW2
 clear HW2 HW
 cases kb
 ·go_region_held3 (fun w' => w'.cell? ⟨w.heap.size + 1, 1, none⟩ = some (.string (s.extract 0 n))) (go_keep)
   ((go_at_call 139; refine (language_any _ (HL0.out.ext (Ext.refl W0).drew).asc).mono ?_; rintro e w1 ⟨rfl, he1, hm1⟩; have hm2 : w1.heap[W0.heap.size]? = some (.map (ents (onesM keyW) 0).toArray 19) := hm1; have HE1 := Lib.hid he1; have x2 : w1.cell? ⟨w.heap.size + 1, 1, none⟩ = some (.string (s.extract 0 n)) := ((b1.out.drew).ext HE1.out).cell 1; have lk := run_lookup_none Tryz.underlying70 Tryz.underlying9 rfl _ 19 _ (.string (s.extract 0 n)) (.int .i64 0) (zero_int w1) hm2 (ones_no _ keyW HKW.out) false; simp only [Bool.false_eq_true, if_false] at lk; clear hm1 hm2 he1))
  clear x1 x2
  go_wp2_with fail
  refine (name_any _ (s.extract 0 n) ((HL0.out.ext (Ext.refl W0).drew).ext HE1.out).asc).mono ?_
  rintro e w2 ⟨rfl, he2⟩
  rw [HX.out]
  have EW : Hid (Ext W0 w2) := Lib.hid ((Ext.refl W0).drew.trans (HE1.out.trans he2))
  clear he2
  have B0 : Hid (Blk w2 w.heap.size 138 #[.int .i64 0, .string ⟨#[]⟩, .int .i64 0, .int .i64 0]) := Lib.hid (b0.out.ext EW.out)
  have B1 : Hid (Blk w2 (w.heap.size + 1) 138 #[.int .i64 0, .string (s.extract 0 n), .int .i64 0, .int .i64 0]) := Lib.hid (b1.out.ext EW.out)
  have p0 : w2.cell? ⟨w.heap.size, 0, none⟩ = some (.int .i64 0) := B0.out.cell 0
  have p1 : w2.cell? ⟨w.heap.size, 1, none⟩ = some (.string ⟨#[]⟩) := B0.out.cell 1
  have p2 : w2.cell? ⟨w.heap.size, 2, none⟩ = some (.int .i64 0) := B0.out.cell 2
  have p3 : w2.cell? ⟨w.heap.size, 3, none⟩ = some (.int .i64 0) := B0.out.cell 3
  have q0 : w2.cell? ⟨w.heap.size + 1, 0, none⟩ = some (.int .i64 0) := B1.out.cell 0
  have q1 : w2.cell? ⟨w.heap.size + 1, 1, none⟩ = some (.string (s.extract 0 n)) := B1.out.cell 1
  have q2 : w2.cell? ⟨w.heap.size + 1, 2, none⟩ = some (.int .i64 0) := B1.out.cell 2
  have q3 : w2.cell? ⟨w.heap.size + 1, 3, none⟩ = some (.int .i64 0) := B1.out.cell 3
  have f0 : ∀ o, w2.frozen? ⟨w.heap.size, o, none⟩ = false := fun o => B0.out.frozen o
  have f1 : ∀ o, w2.frozen? ⟨w.heap.size + 1, o, none⟩ = false := fun o => B1.out.frozen o
  have hlt : w.heap.size + 1 < w2.heap.size := B1.out.lt
  have HEW : Hid (Ext w w2) := Lib.hid (HE0.out.trans EW.out)
  obtain ⟨nb, hnb⟩ : ∃ nb, nameP (l.take n) = nb := ⟨_, rfl⟩
  have HNB := Lib.hid hnb
  rw [hnb]
  clear hnb
  cases nb
  ·have HR := HWP.out
   rw [HNB.out] at HR
   have HRR : Hid (wordP l = none) := Lib.hid HR
   clear HR
   go_wp2_with fail
   go_step3
   refine ⟨rfl, ?_⟩
   show Code.wp _ _ _ _ _
   go_wp2_with fail
   rw [Exit.noGoto_ret]
   refine bodyPost_ret (v := .tuple #[wdV 0 0 0 ⟨#[]⟩, .int .i64 0]) (by simp [results, Tryz.results174, go_sem, wdV, *]) rfl ⟨by rw [HRR.out]; rfl, ?_⟩
   repeat (first | exact HEW.out | refine Ext.setCell ?_ (by simp) _)
  ·have HR := HWP.out
   rw [HNB.out] at HR
   have HRR : Hid (wordP l = some (⟨0, l.take n, 0, 0⟩, n)) := Lib.hid HR
   clear HR
   go_wp2_with fail
   simp only [Exit.jump]
   refine bodyPost_ret (v := .tuple #[wdV 0 0 0 (s.extract 0 n), .int .i64 (n : Int)]) (by simp [results, Tryz.results174, go_sem, wdV, *]) rfl ⟨?_, ?_⟩
   ·rw [HRR.out]
    rw [str_of HX.out]; rfl
   ·repeat (first | exact HEW.out | refine Ext.setCell ?_ (by simp) _)
 ·go_region_held3 (fun w' => w'.cell? ⟨w.heap.size + 1, 1, none⟩ = some (.string (s.extract 0 n))) (go_keep)
   ((go_at_call 139; refine (language_any _ (HL0.out.ext (Ext.refl W0).drew).asc).mono ?_; rintro e w1 ⟨rfl, he1, hm1⟩; have hm2 : w1.heap[W0.heap.size]? = some (.map (ents (onesM keyW) 0).toArray 19) := hm1; have HE1 := Lib.hid he1; have x2 : w1.cell? ⟨w.heap.size + 1, 1, none⟩ = some (.string (s.extract 0 n)) := ((b1.out.drew).ext HE1.out).cell 1; have lk := run_lookup_lit Tryz.underlying70 Tryz.underlying9 rfl _ 19 _ (.string (s.extract 0 n)) (.int .i64 1) hm2 (ones_yes _ keyW HKW.out) false; simp only [Bool.false_eq_true, if_false] at lk; clear hm1 hm2 he1))
  clear x1 x2
  have EW : Hid (Ext W0 w1) := Lib.hid ((Ext.refl W0).drew.trans HE1.out)
  have B0 : Hid (Blk w1 w.heap.size 138 #[.int .i64 0, .string ⟨#[]⟩, .int .i64 0, .int .i64 0]) := Lib.hid (b0.out.ext EW.out)
  have B1 : Hid (Blk w1 (w.heap.size + 1) 138 #[.int .i64 0, .string (s.extract 0 n), .int .i64 0, .int .i64 0]) := Lib.hid (b1.out.ext EW.out)
  have p0 : w1.cell? ⟨w.heap.size, 0, none⟩ = some (.int .i64 0) := B0.out.cell 0
  have p1 : w1.cell? ⟨w.heap.size, 1, none⟩ = some (.string ⟨#[]⟩) := B0.out.cell 1
  have p2 : w1.cell? ⟨w.heap.size, 2, none⟩ = some (.int .i64 0) := B0.out.cell 2
  have p3 : w1.cell? ⟨w.heap.size, 3, none⟩ = some (.int .i64 0) := B0.out.cell 3
  have q0 : w1.cell? ⟨w.heap.size + 1, 0, none⟩ = some (.int .i64 0) := B1.out.cell 0
  have q1 : w1.cell? ⟨w.heap.size + 1, 1, none⟩ = some (.string (s.extract 0 n)) := B1.out.cell 1
  have q2 : w1.cell? ⟨w.heap.size + 1, 2, none⟩ = some (.int .i64 0) := B1.out.cell 2
  have q3 : w1.cell? ⟨w.heap.size + 1, 3, none⟩ = some (.int .i64 0) := B1.out.cell 3
  have f0 : ∀ o, w1.frozen? ⟨w.heap.size, o, none⟩ = false := fun o => B0.out.frozen o
  have f1 : ∀ o, w1.frozen? ⟨w.heap.size + 1, o, none⟩ = false := fun o => B1.out.frozen o
  have hlt : w.heap.size + 1 < w1.heap.size := B1.out.lt
  have HEW : Hid (Ext w w1) := Lib.hid (HE0.out.trans EW.out)
  have HRR : Hid (wordP l = some (⟨1, l.take n, 0, 0⟩, n)) := Lib.hid HWP.out
  go_wp2_with fail
  simp only [Exit.jump]
  refine bodyPost_ret (v := .tuple #[wdV 1 0 0 (s.extract 0 n), .int .i64 (n : Int)]) (by simp [results, Tryz.results174, go_sem, wdV, *]) rfl ⟨?_, ?_⟩
  ·rw [HRR.out]
   rw [str_of HX.out]; rfl
  ·repeat (first | exact HEW.out | refine Ext.setCell ?_ (by simp) _)
theorem word_dig_any (w : World) (s : ByteArray) (l : List UInt8) (hl : s.data.toList = l) (n : Nat) (hn : runP l = n) (h0 : 0 < n) (hlet : headB letB l = false) (hmax : s.size ≤ 140737488355000) (hL : Laid w) :
  Calls Tryz.prog 174 #[.string s] w fun e w' => e = .returned (wrdV (wordP l)) ∧ Ext w w' := by
 have hln : n ≤ l.length := by rw [← hn]; exact run_len l
 have hsz : l.length = s.size := by rw [← hl]; rfl
 have hs0 : 0 < s.size := by omega
 have hns : n ≤ s.size := by omega
 obtain ⟨c, hc⟩ : ∃ c, s[0]'hs0 = c := ⟨_, rfl⟩
 have hcl : letB c = false := by
  rw [head_get (by omega)] at hlet
  rw [← hlet, ← hc, ← str_get s 0 hs0]; congr 1; exact get_of hl _
 have HW : Hid (wordP l = (numP (l.take n)).map fun (x : Nat) => ((⟨2, [], (x : Int), 0⟩ : Wd), n)) := Lib.hid (by
  unfold wordP; rw [hn, if_pos h0, if_neg (by rw [hlet]; simp)])
 have hex : (s.extract 0 n).data.toList = l.take n := by rw [Lib.extract_data, hl, List.drop_zero, Nat.sub_zero]
 have hxs : (s.extract 0 n).size = n := by
  have e : (s.extract 0 n).data.toList.length = n := by rw [hex, List.length_take]; omega
  exact e
 have HXS := Lib.hid hxs
 have HX := Lib.hid hex
 have HL := Lib.hid hL
 have HLL := Lib.hid hl
 have HN := Lib.hid hn
 have HC := Lib.hid hcl
 have dn : decide ((0 : Int) < (n : Int)) = true := decide_eq_true (by omega)
 have dnn : decide (0 < n) = true := decide_eq_true h0
 have HSZ := Lib.hid hsz
 clear hl hn hlet hL hex hcl hsz hxs
 go_enter Tryz.func174, Tryz.ntmps174
 go_wp2_with fail
 refine wp_scope_fwd 0 rfl ?_
 go_wp2_with fail
 refine (run_any _ s (by omega)).mono ?_
 rintro e w' ⟨rfl, rfl⟩
 rw [HLL.out, HN.out]
 go_wp2_with fail
 refine (letter_any _ c).mono ?_
 rintro e w' ⟨rfl, rfl⟩
 rw [HC.out]
 go_wp2_with fail
 obtain ⟨W0, hW0⟩ : ∃ W0, (w.alloc (.cells #[.int .i64 0, .string ⟨#[]⟩, .int .i64 0, .int .i64 0] 138)).alloc (.cells #[.int .i64 0, .string ⟨#[]⟩, .int .i64 0, .int .i64 0] 138) = W0 := ⟨_, rfl⟩
 have b0 : Hid (Blk W0 w.heap.size 138 #[.int .i64 0, .string ⟨#[]⟩, .int .i64 0, .int .i64 0]) := Lib.hid (by rw [← hW0]; exact (Blk.new w _ _).alloc _)
 have b1 : Hid (Blk W0 (w.heap.size + 1) 138 #[.int .i64 0, .string ⟨#[]⟩, .int .i64 0, .int .i64 0]) := Lib.hid (by rw [← hW0]; exact new_at (size_alloc _ _).symm _)
 have HE0 : Hid (Ext w W0) := Lib.hid (by rw [← hW0]; exact ((Ext.refl w).alloc _).alloc _)
 rw [hW0]
 clear hW0
 have HL0 := Lib.hid (HL.out.ext HE0.out)
 refine (parse63 (s.extract 0 n) (by rw [HXS.out]; omega) (by rw [HXS.out]; omega) W0 HL0.out).mono ?_
 rintro e w2 ⟨u, ev, rfl, he2, hr⟩
 rw [HX.out] at hr
 have EW : Hid (Ext W0 w2) := Lib.hid he2
 clear he2
 have B0 : Hid (Blk w2 w.heap.size 138 #[.int .i64 0, .string ⟨#[]⟩, .int .i64 0, .int .i64 0]) := Lib.hid (b0.out.ext EW.out)
 have B1 : Hid (Blk w2 (w.heap.size + 1) 138 #[.int .i64 0, .string ⟨#[]⟩, .int .i64 0, .int .i64 0]) := Lib.hid (b1.out.ext EW.out)
 have p0 : w2.cell? ⟨w.heap.size, 0, none⟩ = some (.int .i64 0) := B0.out.cell 0
 have p1 : w2.cell? ⟨w.heap.size, 1, none⟩ = some (.string ⟨#[]⟩) := B0.out.cell 1
 have p2 : w2.cell? ⟨w.heap.size, 2, none⟩ = some (.int .i64 0) := B0.out.cell 2
 have p3 : w2.cell? ⟨w.heap.size, 3, none⟩ = some (.int .i64 0) := B0.out.cell 3
 have q0 : w2.cell? ⟨w.heap.size + 1, 0, none⟩ = some (.int .i64 0) := B1.out.cell 0
 have q1 : w2.cell? ⟨w.heap.size + 1, 1, none⟩ = some (.string ⟨#[]⟩) := B1.out.cell 1
 have q2 : w2.cell? ⟨w.heap.size + 1, 2, none⟩ = some (.int .i64 0) := B1.out.cell 2
 have q3 : w2.cell? ⟨w.heap.size + 1, 3, none⟩ = some (.int .i64 0) := B1.out.cell 3
 have f0 : ∀ o, w2.frozen? ⟨w.heap.size, o, none⟩ = false := fun o => B0.out.frozen o
 have f1 : ∀ o, w2.frozen? ⟨w.heap.size + 1, o, none⟩ = false := fun o => B1.out.frozen o
 have hlt : w.heap.size + 1 < w2.heap.size := B1.out.lt
 have HEW : Hid (Ext w w2) := Lib.hid (HE0.out.trans EW.out)
 rcases hr.out with ⟨v, hv, rfl, rfl⟩ | ⟨hv, T, p, rfl⟩
 ·have hvm : v ≤ 9223372036854775807 := by
   unfold numP at hv
   split at hv
   ·rename_i hh
    injection hv with e
    rw [← e]; exact hh.2
   ·cases hv
  have hvi : (v : Int) ≤ 9223372036854775807 := by omega
  have HRR : Hid (wordP l = some (⟨2, [], (v : Int), 0⟩, n)) := Lib.hid (by rw [HW.out, hv]; rfl)
  clear hv hr hvm
  go_wp2_with fail
  simp only [Exit.jump]
  refine bodyPost_ret (v := .tuple #[wdV 2 (v : Int) 0 ⟨#[]⟩, .int .i64 (n : Int)]) (by simp [results, Tryz.results174, go_sem, wdV, *]) rfl ⟨?_, ?_⟩
  ·rw [HRR.out]
   rfl
  ·repeat (first | exact HEW.out | refine Ext.setCell ?_ (by simp) _)
 ·have HRR : Hid (wordP l = none) := Lib.hid (by rw [HW.out, hv]; rfl)
  clear hv hr
  go_wp2_with fail
  go_step3
  refine ⟨rfl, ?_⟩
  show Code.wp _ _ _ _ _
  go_wp2_with fail
  rw [Exit.noGoto_ret]
  refine bodyPost_ret (v := .tuple #[wdV 0 0 0 ⟨#[]⟩, .int .i64 0]) (by simp [results, Tryz.results174, go_sem, wdV, *]) rfl ⟨by rw [HRR.out]; rfl, ?_⟩
  repeat (first | exact HEW.out | refine Ext.setCell ?_ (by simp) _)
theorem word_q39_any (w : World) (s : ByteArray) (c : UInt8) (t : List UInt8) (hl : s.data.toList = c :: t) (hn : runP (c :: t) = 0) (hq : c.toNat = 39) (hmax : s.size ≤ 140737488355000) (hL : Laid w) :
  Calls Tryz.prog 174 #[.string s] w fun e w' => e = .returned (wrdV (wordP (c :: t))) ∧ Ext w w' := by
 have hsz : (c :: t).length = s.size := by rw [← hl]; rfl
 have hs0 : 0 < s.size := by rw [← hsz]; simp
 have hc : s[0]'hs0 = c := by rw [← str_get s 0 hs0, get_of hl]; rfl
 have HW : Hid (wordP (c :: t) = (textP c t).map fun x => (⟨3, x.1, 0, 0⟩, x.2 + 1)) := Lib.hid (by
  unfold wordP; rw [hn, if_neg (by omega)]; unfold wordQ; dsimp only; rw [if_pos (by omega)])
 have HL := Lib.hid hL
 have HLL := Lib.hid hl
 have HN := Lib.hid hn
 have HSZ := Lib.hid hsz
 have d39 : ((c.toNat : Int) == 39) = true := by rw [hq]; rfl
 have d34 : ((c.toNat : Int) == 34) = false := by rw [hq]; rfl
 have HQ := Lib.hid hq
 clear hl hn hL hsz hq
 go_enter Tryz.func174, Tryz.ntmps174
 go_wp2_with fail
 refine wp_scope_fwd 0 rfl ?_
 go_wp2_with fail
 refine (run_any _ s (by omega)).mono ?_
 rintro e w' ⟨rfl, rfl⟩
 rw [HLL.out, HN.out]
 go_wp2_with fail
 obtain ⟨W0, hW0⟩ : ∃ W0, (w.alloc (.cells #[.int .i64 0, .string ⟨#[]⟩, .int .i64 0, .int .i64 0] 138)).alloc (.cells #[.int .i64 0, .string ⟨#[]⟩, .int .i64 0, .int .i64 0] 138) = W0 := ⟨_, rfl⟩
 have b0 : Hid (Blk W0 w.heap.size 138 #[.int .i64 0, .string ⟨#[]⟩, .int .i64 0, .int .i64 0]) := Lib.hid (by rw [← hW0]; exact (Blk.new w _ _).alloc _)
 have b1 : Hid (Blk W0 (w.heap.size + 1) 138 #[.int .i64 0, .string ⟨#[]⟩, .int .i64 0, .int .i64 0]) := Lib.hid (by rw [← hW0]; exact new_at (size_alloc _ _).symm _)
 have HE0 : Hid (Ext w W0) := Lib.hid (by rw [← hW0]; exact ((Ext.refl w).alloc _).alloc _)
 rw [hW0]
 clear hW0
 have HL0 := Lib.hid (HL.out.ext HE0.out)
 refine (text_any W0 s c t HLL.out hmax).mono ?_
 rintro e w2 ⟨rfl, he2⟩
 have EW : Hid (Ext W0 w2) := Lib.hid he2
 clear he2
 have B0 : Hid (Blk w2 w.heap.size 138 #[.int .i64 0, .string ⟨#[]⟩, .int .i64 0, .int .i64 0]) := Lib.hid (b0.out.ext EW.out)
 have B1 : Hid (Blk w2 (w.heap.size + 1) 138 #[.int .i64 0, .string ⟨#[]⟩, .int .i64 0, .int .i64 0]) := Lib.hid (b1.out.ext EW.out)
 have p0 : w2.cell? ⟨w.heap.size, 0, none⟩ = some (.int .i64 0) := B0.out.cell 0
 have p1 : w2.cell? ⟨w.heap.size, 1, none⟩ = some (.string ⟨#[]⟩) := B0.out.cell 1
 have p2 : w2.cell? ⟨w.heap.size, 2, none⟩ = some (.int .i64 0) := B0.out.cell 2
 have p3 : w2.cell? ⟨w.heap.size, 3, none⟩ = some (.int .i64 0) := B0.out.cell 3
 have q0 : w2.cell? ⟨w.heap.size + 1, 0, none⟩ = some (.int .i64 0) := B1.out.cell 0
 have q1 : w2.cell? ⟨w.heap.size + 1, 1, none⟩ = some (.string ⟨#[]⟩) := B1.out.cell 1
 have q2 : w2.cell? ⟨w.heap.size + 1, 2, none⟩ = some (.int .i64 0) := B1.out.cell 2
 have q3 : w2.cell? ⟨w.heap.size + 1, 3, none⟩ = some (.int .i64 0) := B1.out.cell 3
 have f0 : ∀ o, w2.frozen? ⟨w.heap.size, o, none⟩ = false := fun o => B0.out.frozen o
 have f1 : ∀ o, w2.frozen? ⟨w.heap.size + 1, o, none⟩ = false := fun o => B1.out.frozen o
 have hlt : w.heap.size + 1 < w2.heap.size := B1.out.lt
 have HEW : Hid (Ext w w2) := Lib.hid (HE0.out.trans EW.out)
 obtain ⟨y, hy⟩ : ∃ y, textP c t = y := ⟨_, rfl⟩
 have HW2 := HW.out
 rw [hy] at HW2
 rw [hy]
 have HY := Lib.hid hy
 clear hy
 cases y with
 | none =>
  have HRR : Hid (wordP (c :: t) = none) := Lib.hid HW2
  clear HW2
  simp only [txtV]
  go_wp2_with fail
  go_step3
  refine ⟨rfl, ?_⟩
  show Code.wp _ _ _ _ _
  go_wp2_with fail
  rw [Exit.noGoto_ret]
  refine bodyPost_ret (v := .tuple #[wdV 0 0 0 ⟨#[]⟩, .int .i64 0]) (by simp [results, Tryz.results174, go_sem, wdV, *]) rfl ⟨by rw [HRR.out]; rfl, ?_⟩
  repeat (first | exact HEW.out | refine Ext.setCell ?_ (by simp) _)
 | some x =>
  obtain ⟨x, m⟩ := x
  have HRR : Hid (wordP (c :: t) = some (⟨3, x, 0, 0⟩, m + 1)) := Lib.hid HW2
  have hm1 : (((m + 1 : Nat) : Int) == 0) = false := by rw [beq_eq_false_iff_ne]; omega
  obtain ⟨j, hj⟩ : ∃ j, m + 1 = j := ⟨_, rfl⟩
  clear HW2
  simp only [txtV]
  rw [hj] at hm1 ⊢
  have HJ := Lib.hid hj
  clear hj
  go_wp2_with fail
  simp only [Exit.jump]
  refine bodyPost_ret (v := .tuple #[wdV 3 0 0 ⟨x.toArray⟩, .int .i64 (j : Int)]) (by simp [results, Tryz.results174, go_sem, wdV, *]) rfl ⟨?_, ?_⟩
  ·rw [HRR.out]
   rw [HJ.out]; rfl
  ·repeat (first | exact HEW.out | refine Ext.setCell ?_ (by simp) _)
theorem word_q34_any (w : World) (s : ByteArray) (c : UInt8) (t : List UInt8) (hl : s.data.toList = c :: t) (hn : runP (c :: t) = 0) (hq : c.toNat = 34) (hmax : s.size ≤ 140737488355000) (hL : Laid w) :
  Calls Tryz.prog 174 #[.string s] w fun e w' => e = .returned (wrdV (wordP (c :: t))) ∧ Ext w w' := by
 have hsz : (c :: t).length = s.size := by rw [← hl]; rfl
 have hs0 : 0 < s.size := by rw [← hsz]; simp
 have hc : s[0]'hs0 = c := by rw [← str_get s 0 hs0, get_of hl]; rfl
 have HW : Hid (wordP (c :: t) = (textP c t).map fun x => (⟨3, x.1, 0, 0⟩, x.2 + 1)) := Lib.hid (by
  unfold wordP; rw [hn, if_neg (by omega)]; unfold wordQ; dsimp only; rw [if_pos (by omega)])
 have HL := Lib.hid hL
 have HLL := Lib.hid hl
 have HN := Lib.hid hn
 have HSZ := Lib.hid hsz
 have d39 : ((c.toNat : Int) == 39) = false := by rw [hq]; rfl
 have d34 : ((c.toNat : Int) == 34) = true := by rw [hq]; rfl
 have HQ := Lib.hid hq
 clear hl hn hL hsz hq
 go_enter Tryz.func174, Tryz.ntmps174
 go_wp2_with fail
 refine wp_scope_fwd 0 rfl ?_
 go_wp2_with fail
 refine (run_any _ s (by omega)).mono ?_
 rintro e w' ⟨rfl, rfl⟩
 rw [HLL.out, HN.out]
 go_wp2_with fail
 obtain ⟨W0, hW0⟩ : ∃ W0, (w.alloc (.cells #[.int .i64 0, .string ⟨#[]⟩, .int .i64 0, .int .i64 0] 138)).alloc (.cells #[.int .i64 0, .string ⟨#[]⟩, .int .i64 0, .int .i64 0] 138) = W0 := ⟨_, rfl⟩
 have b0 : Hid (Blk W0 w.heap.size 138 #[.int .i64 0, .string ⟨#[]⟩, .int .i64 0, .int .i64 0]) := Lib.hid (by rw [← hW0]; exact (Blk.new w _ _).alloc _)
 have b1 : Hid (Blk W0 (w.heap.size + 1) 138 #[.int .i64 0, .string ⟨#[]⟩, .int .i64 0, .int .i64 0]) := Lib.hid (by rw [← hW0]; exact new_at (size_alloc _ _).symm _)
 have HE0 : Hid (Ext w W0) := Lib.hid (by rw [← hW0]; exact ((Ext.refl w).alloc _).alloc _)
 rw [hW0]
 clear hW0
 have HL0 := Lib.hid (HL.out.ext HE0.out)
 refine (text_any W0 s c t HLL.out hmax).mono ?_
 rintro e w2 ⟨rfl, he2⟩
 have EW : Hid (Ext W0 w2) := Lib.hid he2
 clear he2
 have B0 : Hid (Blk w2 w.heap.size 138 #[.int .i64 0, .string ⟨#[]⟩, .int .i64 0, .int .i64 0]) := Lib.hid (b0.out.ext EW.out)
 have B1 : Hid (Blk w2 (w.heap.size + 1) 138 #[.int .i64 0, .string ⟨#[]⟩, .int .i64 0, .int .i64 0]) := Lib.hid (b1.out.ext EW.out)
 have p0 : w2.cell? ⟨w.heap.size, 0, none⟩ = some (.int .i64 0) := B0.out.cell 0
 have p1 : w2.cell? ⟨w.heap.size, 1, none⟩ = some (.string ⟨#[]⟩) := B0.out.cell 1
 have p2 : w2.cell? ⟨w.heap.size, 2, none⟩ = some (.int .i64 0) := B0.out.cell 2
 have p3 : w2.cell? ⟨w.heap.size, 3, none⟩ = some (.int .i64 0) := B0.out.cell 3
 have q0 : w2.cell? ⟨w.heap.size + 1, 0, none⟩ = some (.int .i64 0) := B1.out.cell 0
 have q1 : w2.cell? ⟨w.heap.size + 1, 1, none⟩ = some (.string ⟨#[]⟩) := B1.out.cell 1
 have q2 : w2.cell? ⟨w.heap.size + 1, 2, none⟩ = some (.int .i64 0) := B1.out.cell 2
 have q3 : w2.cell? ⟨w.heap.size + 1, 3, none⟩ = some (.int .i64 0) := B1.out.cell 3
 have f0 : ∀ o, w2.frozen? ⟨w.heap.size, o, none⟩ = false := fun o => B0.out.frozen o
 have f1 : ∀ o, w2.frozen? ⟨w.heap.size + 1, o, none⟩ = false := fun o => B1.out.frozen o
 have hlt : w.heap.size + 1 < w2.heap.size := B1.out.lt
 have HEW : Hid (Ext w w2) := Lib.hid (HE0.out.trans EW.out)
 obtain ⟨y, hy⟩ : ∃ y, textP c t = y := ⟨_, rfl⟩
 have HW2 := HW.out
 rw [hy] at HW2
 rw [hy]
 have HY := Lib.hid hy
 clear hy
 cases y with
 | none =>
  have HRR : Hid (wordP (c :: t) = none) := Lib.hid HW2
  clear HW2
  simp only [txtV]
  go_wp2_with fail
  go_step3
  refine ⟨rfl, ?_⟩
  show Code.wp _ _ _ _ _
  go_wp2_with fail
  rw [Exit.noGoto_ret]
  refine bodyPost_ret (v := .tuple #[wdV 0 0 0 ⟨#[]⟩, .int .i64 0]) (by simp [results, Tryz.results174, go_sem, wdV, *]) rfl ⟨by rw [HRR.out]; rfl, ?_⟩
  repeat (first | exact HEW.out | refine Ext.setCell ?_ (by simp) _)
 | some x =>
  obtain ⟨x, m⟩ := x
  have HRR : Hid (wordP (c :: t) = some (⟨3, x, 0, 0⟩, m + 1)) := Lib.hid HW2
  have hm1 : (((m + 1 : Nat) : Int) == 0) = false := by rw [beq_eq_false_iff_ne]; omega
  obtain ⟨j, hj⟩ : ∃ j, m + 1 = j := ⟨_, rfl⟩
  clear HW2
  simp only [txtV]
  rw [hj] at hm1 ⊢
  have HJ := Lib.hid hj
  clear hj
  go_wp2_with fail
  simp only [Exit.jump]
  refine bodyPost_ret (v := .tuple #[wdV 3 0 0 ⟨x.toArray⟩, .int .i64 (j : Int)]) (by simp [results, Tryz.results174, go_sem, wdV, *]) rfl ⟨?_, ?_⟩
  ·rw [HRR.out]
   rw [HJ.out]; rfl
  ·repeat (first | exact HEW.out | refine Ext.setCell ?_ (by simp) _)
theorem idx_sign (w : World) : ∀ k : Nat, (h : k < 24) → (Instr.index 183 (.agg signV) (.int .i64 (k : Int))).run Tryz.prog w = .ok (.string (signW.getD k ⟨#[]⟩)) w
 | 0, _ => by kernel_rfl
 | 1, _ => by kernel_rfl
 | 2, _ => by kernel_rfl
 | 3, _ => by kernel_rfl
 | 4, _ => by kernel_rfl
 | 5, _ => by kernel_rfl
 | 6, _ => by kernel_rfl
 | 7, _ => by kernel_rfl
 | 8, _ => by kernel_rfl
 | 9, _ => by kernel_rfl
 | 10, _ => by kernel_rfl
 | 11, _ => by kernel_rfl
 | 12, _ => by kernel_rfl
 | 13, _ => by kernel_rfl
 | 14, _ => by kernel_rfl
 | 15, _ => by kernel_rfl
 | 16, _ => by kernel_rfl
 | 17, _ => by kernel_rfl
 | 18, _ => by kernel_rfl
 | 19, _ => by kernel_rfl
 | 20, _ => by kernel_rfl
 | 21, _ => by kernel_rfl
 | 22, _ => by kernel_rfl
 | 23, _ => by kernel_rfl
 | k + 24, h => by omega
theorem word_sign_any (w : World) (s : ByteArray) (c : UInt8) (t : List UInt8) (hl : s.data.toList = c :: t) (hn : runP (c :: t) = 0) (hq : ¬ c.toNat = 39) (hq2 : ¬ c.toNat = 34) (hmax : s.size ≤ 140737488355000) (hL : Laid w) :
  Calls Tryz.prog 174 #[.string s] w fun e w' => e = .returned (wrdV (wordP (c :: t))) ∧ Ext w w' := by
 have hsz : (c :: t).length = s.size := by rw [← hl]; rfl
 have hs0 : 0 < s.size := by rw [← hsz]; simp
 have hc : s[0]'hs0 = c := by rw [← str_get s 0 hs0, get_of hl]; rfl
 have HW : Hid (wordP (c :: t) = (signL.find? fun x => preB x (c :: t)).map fun x => (⟨4, x, 0, 0⟩, x.length)) := Lib.hid (by
  unfold wordP; rw [hn, if_neg (by omega)]; unfold wordQ; dsimp only; rw [if_neg (by omega)])
 have HL := Lib.hid hL
 have HLL := Lib.hid hl
 have HN := Lib.hid hn
 have HSZ := Lib.hid hsz
 have d39 : ((c.toNat : Int) == 39) = false := by rw [beq_eq_false_iff_ne]; omega
 have d34 : ((c.toNat : Int) == 34) = false := by rw [beq_eq_false_iff_ne]; omega
 clear hl hn hL hsz hq hq2
 go_enter Tryz.func174, Tryz.ntmps174
 go_wp2_with fail
 refine wp_scope_fwd 0 rfl ?_
 go_wp2_with fail
 refine (run_any _ s (by omega)).mono ?_
 rintro e w' ⟨rfl, rfl⟩
 rw [HLL.out, HN.out]
 go_wp2_with fail
 obtain ⟨W0, hW0⟩ : ∃ W0, (w.alloc (.cells #[.int .i64 0, .string ⟨#[]⟩, .int .i64 0, .int .i64 0] 138)).alloc (.cells #[.int .i64 0, .string ⟨#[]⟩, .int .i64 0, .int .i64 0] 138) = W0 := ⟨_, rfl⟩
 have b0 : Hid (Blk W0 w.heap.size 138 #[.int .i64 0, .string ⟨#[]⟩, .int .i64 0, .int .i64 0]) := Lib.hid (by rw [← hW0]; exact (Blk.new w _ _).alloc _)
 have b1 : Hid (Blk W0 (w.heap.size + 1) 138 #[.int .i64 0, .string ⟨#[]⟩, .int .i64 0, .int .i64 0]) := Lib.hid (by rw [← hW0]; exact new_at (size_alloc _ _).symm _)
 have HE0 : Hid (Ext w W0) := Lib.hid (by rw [← hW0]; exact ((Ext.refl w).alloc _).alloc _)
 rw [hW0]
 clear hW0
 have HL0 := Lib.hid (HL.out.ext HE0.out)
 refine (signs_any W0).mono ?_
 rintro e w2 ⟨rfl, he2⟩
 have EW : Hid (Ext W0 w2) := Lib.hid he2
 clear he2
 have B0 : Hid (Blk w2 w.heap.size 138 #[.int .i64 0, .string ⟨#[]⟩, .int .i64 0, .int .i64 0]) := Lib.hid (b0.out.ext EW.out)
 have B1 : Hid (Blk w2 (w.heap.size + 1) 138 #[.int .i64 0, .string ⟨#[]⟩, .int .i64 0, .int .i64 0]) := Lib.hid (b1.out.ext EW.out)
 have p0 : w2.cell? ⟨w.heap.size, 0, none⟩ = some (.int .i64 0) := B0.out.cell 0
 have p1 : w2.cell? ⟨w.heap.size, 1, none⟩ = some (.string ⟨#[]⟩) := B0.out.cell 1
 have p2 : w2.cell? ⟨w.heap.size, 2, none⟩ = some (.int .i64 0) := B0.out.cell 2
 have p3 : w2.cell? ⟨w.heap.size, 3, none⟩ = some (.int .i64 0) := B0.out.cell 3
 have q0 : w2.cell? ⟨w.heap.size + 1, 0, none⟩ = some (.int .i64 0) := B1.out.cell 0
 have q1 : w2.cell? ⟨w.heap.size + 1, 1, none⟩ = some (.string ⟨#[]⟩) := B1.out.cell 1
 have q2 : w2.cell? ⟨w.heap.size + 1, 2, none⟩ = some (.int .i64 0) := B1.out.cell 2
 have q3 : w2.cell? ⟨w.heap.size + 1, 3, none⟩ = some (.int .i64 0) := B1.out.cell 3
 have f0 : ∀ o, w2.frozen? ⟨w.heap.size, o, none⟩ = false := fun o => B0.out.frozen o
 have f1 : ∀ o, w2.frozen? ⟨w.heap.size + 1, o, none⟩ = false := fun o => B1.out.frozen o
 have hlt : w.heap.size + 1 < w2.heap.size := B1.out.lt
 have HEW : Hid (Ext w w2) := Lib.hid (HE0.out.trans EW.out)
 have HV : Hid (∀ w, ∀ k : Nat, (h : k < 24) → (Instr.index 183 (.agg signV) (.int .i64 (k : Int))).run Tryz.prog w = .ok (.string (signW.getD k ⟨#[]⟩)) w) := Lib.hid idx_sign
 obtain ⟨sv, hsv⟩ : ∃ sv, signV = sv := ⟨_, rfl⟩
 rw [hsv] at HV ⊢
 clear hsv
 go_wp2_with fail
 go_loopw [75] (fun v wr => ∃ k : Nat, v = .int .i64 (k : Int) ∧ k ≤ 24 ∧ wr = w2 ∧ Hid ((signL.drop k).find? (fun x => preB x (c :: t)) = signL.find? fun x => preB x (c :: t))) (fun v _ => 24 - (intOf v).toNat)
 case atStart => exact ⟨0, rfl, by omega, rfl, Lib.hid rfl⟩
 case round =>
  obtain ⟨k, rfl, hk, rfl, HK⟩ := hrel
  by_cases hkn : k < 24
  ·have d1 : decide ((k : Int) < 24) = true := decide_eq_true (by omega)
   have d1n : decide (k < 24) = true := decide_eq_true hkn
   have ix := HV.out wr k hkn
   have hkl : k < signL.length := hkn
   obtain ⟨x, hx⟩ : ∃ x, signL[k]'hkl = x := ⟨_, rfl⟩
   have hxw : signW.getD k ⟨#[]⟩ = ⟨x.toArray⟩ := by rw [← hx, List.getD_eq_getElem?_getD, signW, List.getElem?_map, List.getElem?_eq_getElem hkl]; rfl
   rw [hxw] at ix
   have hK := HK.out
   rw [List.drop_eq_getElem_cons hkl, hx, List.find?_cons] at hK
   have HXM : Hid (x ∈ signL) := Lib.hid (by rw [← hx]; exact List.getElem_mem _)
   have HKK := Lib.hid hK
   clear hx hxw hK HK
   go_wp2_with fail
   refine (Tryz.strings_HasPrefix _ _ _).mono ?_
   rintro e w' ⟨rfl, rfl⟩
   have e0 : Lib.hasPrefix s.data.toList (⟨x.toArray⟩ : ByteArray).data.toList = preB x (c :: t) := by rw [HLL.out]; rfl
   rw [e0]
   obtain ⟨pb, hpb⟩ : ∃ pb, preB x (c :: t) = pb := ⟨_, rfl⟩
   have hK := HKK.out
   rw [hpb] at hK ⊢
   have HP := Lib.hid hpb
   clear e0 hpb
   cases pb
   ·have HK2 := Lib.hid hK
    clear hK
    go_wp2_with fail
    go_roundw
    case rel => exact ⟨k + 1, by simp, by omega, by first | rfl | trivial, HK2⟩
    case measure => simp [intOf]; omega
   ·have HRR : Hid (wordP (c :: t) = some (⟨4, x, 0, 0⟩, x.length)) := Lib.hid (by rw [HW.out, ← hK]; rfl)
    have HSX : Hid ((⟨x.toArray⟩ : ByteArray).size = x.length) := Lib.hid rfl
    clear hK
    go_wp2_with fail
    simp only [Exit.jump]
    refine bodyPost_ret (v := .tuple #[wdV 4 0 0 ⟨x.toArray⟩, .int .i64 (x.length : Int)]) (by simp [results, Tryz.results174, go_sem, wdV, *]) rfl ⟨?_, ?_⟩
    ·rw [HRR.out]
     rfl
    ·repeat (first | exact HEW.out | refine Ext.setCell ?_ (by simp) _)
  ·obtain rfl : k = 24 := by omega
   have hK := HK.out
   have HRR : Hid (wordP (c :: t) = none) := Lib.hid (by rw [HW.out, ← hK]; rfl)
   clear hK
   go_wp2_with fail
   go_step3
   go_wp2_with fail
   simp only [Exit.jump]
   refine bodyPost_ret (v := .tuple #[wdV 0 0 0 ⟨#[]⟩, .int .i64 0]) (by simp [results, Tryz.results174, go_sem, wdV, *]) rfl ⟨by rw [HRR.out]; rfl, ?_⟩
   repeat (first | exact HEW.out | refine Ext.setCell ?_ (by simp) _)
theorem word_any (w : World) (s : ByteArray) (hne : s.size ≠ 0) (hmax : s.size ≤ 140737488355000) (hL : Laid w) :
  Calls Tryz.prog 174 #[.string s] w fun e w' => e = .returned (wrdV (wordP s.data.toList)) ∧ Ext w w' := by
 by_cases h0 : 0 < runP s.data.toList
 ·cases hh : headB letB s.data.toList
  ·exact word_dig_any w s _ rfl _ rfl h0 hh hmax hL
  ·exact word_let_any w s _ rfl _ rfl h0 hh hmax hL
 ·obtain ⟨l, hl⟩ : ∃ l, s.data.toList = l := ⟨_, rfl⟩
  rw [hl] at h0 ⊢
  have hlen : l.length = s.size := by rw [← hl]; rfl
  cases l with
  | nil => exact absurd hlen.symm hne
  | cons c t =>
   by_cases h1 : c.toNat = 39
   ·exact word_q39_any w s c t hl (by omega) h1 hmax hL
   by_cases h2 : c.toNat = 34
   ·exact word_q34_any w s c t hl (by omega) h2 hmax hL
   ·exact word_sign_any w s c t hl (by omega) h1 h2 hmax hL
end Go.Proofs.YtkbcnacjaakleaaGreatDoor
namespace Go.Proofs.YtkbcnacjaakleaaGreatDoor
open Go.RowKit Go.Shelf
attribute [local go_sem] Oper.semAt_some

def itemsP (at_ : Nat) (l : List UInt8) : List (Wd × Nat) :=
 if h : l = [] then [] else
  match wordP l with
  | none => [(⟨0, [], 0, at_⟩, 0)]
  | some (w, n) => ({ w with a := at_ }, n) :: itemsP (at_ + (n - 1 + 1) + blankS false (l.drop (n - 1 + 1))) (l.drop (n - 1 + 1 + blankS false (l.drop (n - 1 + 1))))
termination_by l.length
decreasing_by
 have : 0 < l.length := List.length_pos_iff.2 h
 simp only [List.length_drop]
 omega
theorem items_nil (a : Nat) : itemsP a [] = [] := by rw [itemsP]; simp
theorem items_none {a : Nat} {l : List UInt8} (hl : l ≠ []) (h : wordP l = none) : itemsP a l = [(⟨0, [], 0, a⟩, 0)] := by rw [itemsP, dif_neg hl, h]
theorem items_some {a : Nat} {l : List UInt8} {w : Wd} {n : Nat} (hl : l ≠ []) (h : wordP l = some (w, n)) (hn : 1 ≤ n) :
  itemsP a l = ({ w with a := a }, n) :: itemsP (a + n + blankS false (l.drop n)) (l.drop (n + blankS false (l.drop n))) := by
 rw [itemsP, dif_neg hl, h]
 simp only [show n - 1 + 1 = n by omega]
theorem blank_len : ∀ (b : Bool) (l : List UInt8), blankS b l ≤ l.length
 | true, [] => by simp [blankS]
 | false, [] => by simp [blankS]
 | true, c :: l => by
  have h1 := blank_len true l
  have h2 := blank_len false l
  simp only [blankS, List.length_cons]
  split <;> omega
 | false, c :: l => by
  have h1 := blank_len true l
  have h2 := blank_len false l
  simp only [blankS, List.length_cons]
  split
  ·omega
  ·split <;> omega
theorem blank_le (l : List UInt8) : blankS false l ≤ l.length := blank_len false l
def RItem (items pre : List (Wd × Nat)) (x : Wd × Nat) : Prop := ∃ tail, items = pre ++ x :: tail
def encW (x : Wd × Nat) : Array Value := #[x.1.v, .int .i64 (x.2 : Int)]
theorem Laid.below {w w' : World} {B : Nat} (h : Laid w) (hb : Below B w w') (hB : 0 < B ∧ 2 < B ∧ 6 < B ∧ 7 < B) : Laid w' :=
 ⟨h.asc.of_same (hb.block _ hB.1), h.pow.of_same (hb.block _ hB.2.1),
  let ⟨a, b, c⟩ := h.syn; ⟨a, b, (hb.cell (p := ⟨6, 0, none⟩) hB.2.2.1).trans c⟩, let ⟨a, b, c⟩ := h.rng; ⟨a, b, (hb.cell (p := ⟨7, 0, none⟩) hB.2.2.2).trans c⟩⟩
theorem cell_below {w : World} {b o : Nat} {v : Value} (h : w.cell? ⟨b, o, none⟩ = some v) : b < w.heap.size := by
 rcases Nat.lt_or_ge b w.heap.size with h1 | h1
 ·exact h1
 ·simp [World.cell?, Array.getElem?_eq_none h1] at h
theorem Laid.low {w : World} (h : Laid w) : 0 < w.heap.size ∧ 2 < w.heap.size ∧ 6 < w.heap.size ∧ 7 < w.heap.size :=
 ⟨h.asc.lt, h.pow.lt, let ⟨_, _, c⟩ := h.syn; cell_below c, let ⟨_, _, c⟩ := h.rng; cell_below c⟩
theorem Ext.grownBy {a b : World} (h : Ext a b) : a.grownBy b none := ⟨h.os, h.tape, h.output, h.size, fun k hk _ => h.block k hk⟩
theorem all_in (n : Nat) (s : ByteArray) (w : World) :
  CallsIn Fence.wide n Tryz.prog 89 #[.string s] w fun e w' => e = .returned (.func (.func 172) #[] #[.pointer (some ⟨w.heap.size, 0, none⟩)]) ∧ w.alloc (.cells #[.string s] 9) = w' := by
 refine callsIn_of_wp Tryz.func89 rfl trivial ?_ rfl
 simp only [Tryz.ntmps89, List.size_toArray, List.length_cons, List.length_nil, Nat.reduceAdd, Nat.reduceSub, Array.replicate_succ, Array.replicate_zero, List.push_toArray, List.append_toArray, List.nil_append, List.cons_append]
 gi_wp2
 go_ret
 exact ⟨rfl, rfl⟩
theorem items_in (n : Nat) (hn : 1 ≤ n) (B b : Nat) (s : ByteArray) (l : List UInt8) (hl : Hid (s.data.toList = l)) (hmax : s.size ≤ 1048576) (w : World) (hBw : B ≤ w.heap.size)
  (hB : 0 < B ∧ 2 < B ∧ 6 < B ∧ 7 < B) (hb : b < w.heap.size) (hbs : Blk w b 9 #[.string s]) (ha : Laid w)
  (items : List (Wd × Nat)) (hit : Hid (items = itemsP (blankS false l) (l.drop (blankS false l)))) :
  SeqR Fence.wide n Tryz.prog 172 #[.pointer (some ⟨b, 0, none⟩)] encW (KpB B b) (RItem items) (fun x => 1 ≤ x.2) (fun xs => xs = items ∧ ∀ x ∈ xs, 1 ≤ x.2) (fun _ => True) w := fun q J Jx W hW hJ hJx hY h0 => by
 have hbW := Lib.hid (show Blk W b 9 #[.string s] from (hW.block b hb).trans hbs)
 have haW := Lib.hid (ha.ext hW)
 have hll : l.length = s.size := by rw [← hl.out]; rfl
 have HLL := Lib.hid hll
 clear hbs ha hll
 have hbl : Hid (blankS false l ≤ l.length) := Lib.hid (blank_le l)
 refine callsIn_of_wp Tryz.func172 rfl trivial ?_ rfl
 simp only [Tryz.ntmps172, List.size_toArray, List.length_cons, List.length_nil, Nat.reduceAdd, Nat.reduceSub, Array.replicate_succ, Array.replicate_zero, List.push_toArray, List.append_toArray, List.nil_append, List.cons_append]
 have c0 : W.cell? ⟨b, 0, none⟩ = some (.string s) := hbW.out.cell 0
 gi_wp2
 refine ⟨trivial, (callsIn_wide.2 (blank_any _ s (by omega))).mono ?_⟩
 rintro e w' ⟨rfl, rfl⟩
 rw [hl.out]
 gi_wp2
 clear c0
 gi_loopw [3] (fun v3 wr => ∃ (k : Nat) (pre : List (Wd × Nat)), v3 = .int .i64 (k : Int) ∧ k ≤ s.size ∧ Hid (Blk wr b 9 #[.string s]) ∧ Hid (Laid wr) ∧ Hid (J pre wr) ∧ Hid (items = pre ++ itemsP k (l.drop k)) ∧ Hid (∀ x ∈ pre, 1 ≤ x.2)) (fun v3 _ => s.size - (intOf v3).toNat)
 case atStart => exact ⟨_, [], rfl, by have h1 := hbl.out; have h2 := HLL.out; omega, hbW, haW, Lib.hid h0, Lib.hid hit.out, Lib.hid (fun x hx => by cases hx)⟩
 case round =>
  obtain ⟨k, pre, rfl, hk, HBK, HLA, HJ, HI, HP⟩ := hrel
  have c0 : wr.cell? ⟨b, 0, none⟩ = some (.string s) := HBK.out.cell 0
  by_cases hkn : k < s.size
  ·have d1 : decide ((k : Int) < (s.size : Int)) = true := decide_eq_true (by omega)
   have d1n : decide (k < s.size) = true := decide_eq_true hkn
   have dk : k ≤ s.size := by omega
   have hex : (s.extract k s.size).data.toList = l.drop k := by rw [Lib.extract_to_end, hl.out]
   have hsz : (s.extract k s.size).size = s.size - k := by
    have e : (s.extract k s.size).data.toList.length = s.size - k := by rw [hex, List.length_drop, HLL.out]
    exact e
   have HX := Lib.hid hex
   have HSZ := Lib.hid hsz
   clear hex hsz
   gi_wp2
   refine ⟨trivial, (callsIn_wide.2 (word_any _ (s.extract k s.size) (by rw [HSZ.out]; omega) (by rw [HSZ.out]; omega) HLA.out)).mono ?_⟩
   rintro e w1 ⟨rfl, he1⟩
   rw [HX.out]
   have HE1 := Lib.hid he1
   clear he1
   have HNE : Hid (l.drop k ≠ []) := Lib.hid (by intro e; have := congrArg List.length e; rw [List.length_drop, HLL.out] at this; simp at this; omega)
   obtain ⟨y, hy⟩ : ∃ y, wordP (l.drop k) = y := ⟨_, rfl⟩
   rw [hy]
   have HY := Lib.hid hy
   clear hy
   cases y with
   | none =>
    have hit2 := items_none (a := k) HNE.out HY.out
    have hI := HI.out
    rw [hit2] at hI
    have HE2 : Hid (Ext wr (w1.alloc (.cells #[.int .i64 0, .string ⟨#[]⟩, .int .i64 0, .int .i64 (k : Int)] 138))) := Lib.hid (HE1.out.alloc _)
    have hJ2 := hJ _ _ _ none HJ.out HE2.out.grownBy (fun r e => by cases e)
    have hy0 : YieldAt Fence.wide (n - 1) Tryz.prog q #[.agg #[.int .i64 0, .string ⟨#[]⟩, .int .i64 0, .int .i64 (k : Int)], .int .i64 0] (w1.alloc (.cells #[.int .i64 0, .string ⟨#[]⟩, .int .i64 0, .int .i64 (k : Int)] 138)) _ := hY pre (⟨0, [], 0, k⟩, 0) _ hJ2 ⟨[], hI⟩
    obtain ⟨fn, tmps, assign, body, hy, hR⟩ := hy0
    simp only [wrdV, wdV]
    clear hI hit2 hJ2
    gi_wp2
    refine hR.mono ?_
    rintro e W3 (⟨rfl, hG, _⟩ | ⟨rfl, hJx3⟩)
    ·exact absurd hG (by show ¬ 1 ≤ 0; omega)
    ·gi_wp2
     refine bodyPost_ret (results_none rfl _ _ _) rfl ?_
     exact ⟨⟨_, rfl⟩, .inr ⟨_, trivial, hJx3⟩⟩
   | some x =>
    obtain ⟨x, m⟩ := x
    have hmay := word_may HY.out
    have hm1 : 1 ≤ m := hmay.2.2.1
    have hmk : k + m ≤ s.size := by have h1 := hmay.2.2.2.1; rw [List.length_drop, HLL.out] at h1; omega
    have hit2 := items_some (a := k) HNE.out HY.out hm1
    have hI := HI.out
    rw [hit2] at hI
    have HE2 : Hid (Ext wr (w1.alloc (.cells #[.int .i64 x.k, .string ⟨x.t.toArray⟩, .int .i64 x.n, .int .i64 (k : Int)] 138))) := Lib.hid (HE1.out.alloc _)
    have hJ2 := hJ _ _ _ none HJ.out HE2.out.grownBy (fun r e => by cases e)
    have hy0 : YieldAt Fence.wide (n - 1) Tryz.prog q #[.agg #[.int .i64 x.k, .string ⟨x.t.toArray⟩, .int .i64 x.n, .int .i64 (k : Int)], .int .i64 (m : Int)] (w1.alloc (.cells #[.int .i64 x.k, .string ⟨x.t.toArray⟩, .int .i64 x.n, .int .i64 (k : Int)] 138)) _ := hY pre ({ x with a := k }, m) _ hJ2 ⟨_, hI⟩
    obtain ⟨fn, tmps, assign, body, hy, hR⟩ := hy0
    simp only [wrdV, wdV, Wd.v]
    have HII := Lib.hid hI
    clear hI hit2 hJ2 hmay
    gi_wp2
    refine hR.mono ?_
    rintro e W3 (⟨rfl, _, hJ3, hk3⟩ | ⟨rfl, hJx3⟩)
    ·have hbl2 := blank_le (l.drop (k + m))
     rw [List.length_drop, HLL.out] at hbl2
     obtain ⟨z, hz⟩ : ∃ z, blankS false (l.drop (k + m)) = z := ⟨_, rfl⟩
     rw [hz] at hbl2
     have HZ := Lib.hid hz
     have HB3 : Hid (Blk W3 b 9 #[.string s]) := Lib.hid (hk3.2.trans (HBK.out.ext HE2.out))
     have HL3 : Hid (Laid W3) := Lib.hid ((HLA.out.ext HE2.out).below hk3.1 hB)
     have HJ3 := Lib.hid hJ3
     have HI3 : Hid (items = (pre ++ [({ x with a := k }, m)]) ++ itemsP (k + m + z) (l.drop (k + m + z))) := Lib.hid (by
      rw [HII.out, List.drop_drop, HZ.out, List.drop_drop, List.append_assoc, Nat.add_assoc]; rfl)
     have HP3 : Hid (∀ y ∈ pre ++ [(({ x with a := k } : Wd), m)], 1 ≤ y.2) := Lib.hid (fun y hy => by
      rcases List.mem_append.1 hy with h | h
      ·exact HP.out y h
      ·simp at h; subst h; exact hm1)
     have c3 : W3.cell? ⟨b, 0, none⟩ = some (.string s) := HB3.out.cell 0
     have hex3 : (s.extract (k + m) s.size).data.toList = l.drop (k + m) := by rw [Lib.extract_to_end, hl.out]
     have HX3 := Lib.hid hex3
     have hsz3 : (s.extract (k + m) s.size).size ≤ s.size := by
      have e : (s.extract (k + m) s.size).data.toList.length = s.size - (k + m) := by rw [hex3, List.length_drop, HLL.out]
      have e2 : (s.extract (k + m) s.size).size = s.size - (k + m) := e
      omega
     have HS3 := Lib.hid hsz3
     clear hz hJ3 hk3 hex3 hsz3
     gi_wp2
     refine ⟨trivial, (callsIn_wide.2 (blank_any _ (s.extract (k + m) s.size) (by have := HS3.out; omega))).mono ?_⟩
     rintro e w' ⟨rfl, rfl⟩
     rw [HX3.out, HZ.out]
     gi_wp2
     go_roundw
     case rel => exact ⟨k + m + z, _, by go_num, by omega, HB3, HL3, HJ3, HI3, HP3⟩
     case measure => simp [intOf]; omega
    ·gi_wp2
     refine bodyPost_ret (results_none rfl _ _ _) rfl ?_
     exact ⟨⟨_, rfl⟩, .inr ⟨_, trivial, hJx3⟩⟩
  ·obtain rfl : k = s.size := by omega
   have d1 : decide ((s.size : Int) < (s.size : Int)) = false := decide_eq_false (by omega)
   have hI := HI.out
   rw [List.drop_eq_nil_of_le (by rw [HLL.out]; exact Nat.le_refl _), items_nil, List.append_nil] at hI
   have HII := Lib.hid hI
   clear hI
   gi_wp2
   go_end0
   exact ⟨⟨_, rfl⟩, .inl ⟨pre, ⟨HII.out.symm, HP.out⟩, HJ.out⟩⟩
end Go.Proofs.YtkbcnacjaakleaaGreatDoor
