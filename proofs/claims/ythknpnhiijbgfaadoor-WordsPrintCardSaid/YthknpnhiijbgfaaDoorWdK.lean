/- Words: the word that stands ahead, in the program. -/
import Derived.Test.YthknpnhiijbgfaaDoorWdJ
import Derived.Test.YthknpnhiijbgfaaDoorWdD
import Derived.Test.YthknpnhiijbgfaaDoorWdG
namespace Go.Proofs.YthknpnhiijbgfaaDoor
open Go.RowKit
set_option linter.unusedVariables false
set_option linter.unusedSimpArgs false

def wdV (k n a : Int) (t : ByteArray) : Value := .agg #[.int .i64 k, .string t, .int .i64 n, .int .i64 a]
def Wd.v (x : Wd) : Value := wdV x.k x.n x.a ⟨x.t.toArray⟩
def wrdV : Option (Wd × Nat) → Value
  | none => .tuple #[wdV 0 0 0 ⟨#[]⟩, .int .i64 0]
  | some (x, n) => .tuple #[x.v, .int .i64 (n : Int)]
theorem str_of {s : ByteArray} {l : List UInt8} (h : s.data.toList = l) : s = ⟨l.toArray⟩ := by
  apply ByteArray.ext
  apply Array.ext'
  rw [h]
set_option maxRecDepth 100000 in
set_option maxHeartbeats 2000000 in
theorem word_let_any (w : World) (s : ByteArray) (l : List UInt8) (hl : s.data.toList = l) (n : Nat) (hn : runP l = n) (h0 : 0 < n) (hlet : headB letB l = true) (hmax : s.size ≤ 140737488355000) (hL : Laid w) :
    Calls Tryd.prog 45 #[.string s] w fun e w' => e = .returned (wrdV (wordP l)) ∧ Ext w w' := by
  have hln : n ≤ l.length := by rw [← hn]; exact run_len l
  have hsz : l.length = s.size := by rw [← hl]; rfl
  have hs0 : 0 < s.size := by omega
  have hns : n ≤ s.size := by omega
  obtain ⟨c, hc⟩ : ∃ c, s[0]'hs0 = c := ⟨_, rfl⟩
  have hcl : letB c = true := by
    rw [head_get (by omega)] at hlet
    rw [← hlet, ← hc, ← str_get s 0 hs0]; congr 1; exact get_of hl _
  have HW : Hid (wordP l = if keyB (l.take n) = true then some (⟨1, l.take n, 0, 0⟩, n) else if nameP (l.take n) = true then some (⟨0, l.take n, 0, 0⟩, n) else none) := Lib.hid (by
    unfold wordP; rw [hn, if_pos h0, if_pos hlet])
  have hex : (s.extract 0 n).data.toList = l.take n := by rw [Lib.extract_data, hl, List.drop_zero, Nat.sub_zero]
  have HX := Lib.hid hex
  have HL := Lib.hid hL
  have HLL := Lib.hid hl
  have HN := Lib.hid hn
  have HC := Lib.hid hcl
  have dn : decide ((0 : Int) < (n : Int)) = true := decide_eq_true (by omega)
  have dnn : decide (0 < n) = true := decide_eq_true h0
  have HSZ := Lib.hid hsz
  clear hl hn hlet hL hex hcl hsz
  go_enter Tryd.func45, Tryd.ntmps45
  go_wp2_with fail
  refine wp_scope_fwd 0 rfl ?_
  go_wp2_with fail
  refine (run_any _ s (by omega)).mono ?_
  rintro e w' ⟨rfl, rfl⟩
  rw [HLL.out, HN.out]
  go_wp2_with fail
  refine (letter_any _ c).mono ?_
  rintro e w' ⟨rfl, rfl⟩
  rw [HC.out]
  go_wp2_with fail
  obtain ⟨W0, hW0⟩ : ∃ W0, (w.alloc (.cells #[.int .i64 0, .string ⟨#[]⟩, .int .i64 0, .int .i64 0] 31)).alloc (.cells #[.int .i64 0, .string (s.extract 0 n), .int .i64 0, .int .i64 0] 31) = W0 := ⟨_, rfl⟩
  have b0 : Hid (Blk W0 w.heap.size 31 #[.int .i64 0, .string ⟨#[]⟩, .int .i64 0, .int .i64 0]) := Lib.hid (by rw [← hW0]; exact (Blk.new w _ _).alloc _)
  have b1 : Hid (Blk W0 (w.heap.size + 1) 31 #[.int .i64 0, .string (s.extract 0 n), .int .i64 0, .int .i64 0]) := Lib.hid (by rw [← hW0]; exact new_at (size_alloc _ _).symm _)
  have HE0 : Hid (Ext w W0) := Lib.hid (by rw [← hW0]; exact ((Ext.refl w).alloc _).alloc _)
  rw [hW0]
  clear hW0
  have HL0 := Lib.hid (HL.out.ext HE0.out)
  have x1 : W0.cell? ⟨w.heap.size + 1, 1, none⟩ = some (.string (s.extract 0 n)) := b1.out.cell 1
  obtain ⟨kb, hkb⟩ : ∃ kb, keyB (l.take n) = kb := ⟨_, rfl⟩
  have hk := any_keyW (s.extract 0 n)
  rw [HX.out, hkb] at hk
  have HKB := Lib.hid hkb
  have HKW := Lib.hid hk
  clear hkb hk
  have HW2 := HW.out
  rw [HKB.out] at HW2
  have HWP := Lib.hid HW2
  clear HW2 HW
  cases kb
  · go_region_held3 (fun w' => w'.cell? ⟨w.heap.size + 1, 1, none⟩ = some (.string (s.extract 0 n))) (go_keep)
      ((go_at_call 25; refine (language_any _ (HL0.out.ext (Ext.refl W0).drew).asc).mono ?_; rintro e w1 ⟨rfl, he1, hm1⟩; have hm2 : w1.heap[W0.heap.size]? = some (.map (ents (onesM keyW) 0).toArray 19) := hm1; have HE1 := Lib.hid he1; have x2 : w1.cell? ⟨w.heap.size + 1, 1, none⟩ = some (.string (s.extract 0 n)) := ((b1.out.drew).ext HE1.out).cell 1; have lk := run_lookup_none Tryd.underlying47 Tryd.underlying9 rfl _ 19 _ (.string (s.extract 0 n)) (.int .i64 0) (zero_int w1) hm2 (ones_no _ keyW HKW.out) false; simp only [Bool.false_eq_true, if_false] at lk; clear hm1 hm2 he1))
    clear x1 x2
    go_wp2_with fail
    refine (name_any _ (s.extract 0 n) ((HL0.out.ext (Ext.refl W0).drew).ext HE1.out).asc).mono ?_
    rintro e w2 ⟨rfl, he2⟩
    rw [HX.out]
    have EW : Hid (Ext W0 w2) := Lib.hid ((Ext.refl W0).drew.trans (HE1.out.trans he2))
    clear he2
    have B0 : Hid (Blk w2 w.heap.size 31 #[.int .i64 0, .string ⟨#[]⟩, .int .i64 0, .int .i64 0]) := Lib.hid (b0.out.ext EW.out)
    have B1 : Hid (Blk w2 (w.heap.size + 1) 31 #[.int .i64 0, .string (s.extract 0 n), .int .i64 0, .int .i64 0]) := Lib.hid (b1.out.ext EW.out)
    have p0 : w2.cell? ⟨w.heap.size, 0, none⟩ = some (.int .i64 0) := B0.out.cell 0
    have p1 : w2.cell? ⟨w.heap.size, 1, none⟩ = some (.string ⟨#[]⟩) := B0.out.cell 1
    have p2 : w2.cell? ⟨w.heap.size, 2, none⟩ = some (.int .i64 0) := B0.out.cell 2
    have p3 : w2.cell? ⟨w.heap.size, 3, none⟩ = some (.int .i64 0) := B0.out.cell 3
    have q0 : w2.cell? ⟨w.heap.size + 1, 0, none⟩ = some (.int .i64 0) := B1.out.cell 0
    have q1 : w2.cell? ⟨w.heap.size + 1, 1, none⟩ = some (.string (s.extract 0 n)) := B1.out.cell 1
    have q2 : w2.cell? ⟨w.heap.size + 1, 2, none⟩ = some (.int .i64 0) := B1.out.cell 2
    have q3 : w2.cell? ⟨w.heap.size + 1, 3, none⟩ = some (.int .i64 0) := B1.out.cell 3
    have f0 : ∀ o, w2.frozen? ⟨w.heap.size, o, none⟩ = false := fun o => B0.out.frozen o
    have f1 : ∀ o, w2.frozen? ⟨w.heap.size + 1, o, none⟩ = false := fun o => B1.out.frozen o
    have hlt : w.heap.size + 1 < w2.heap.size := B1.out.lt
    have HEW : Hid (Ext w w2) := Lib.hid (HE0.out.trans EW.out)
    obtain ⟨nb, hnb⟩ : ∃ nb, nameP (l.take n) = nb := ⟨_, rfl⟩
    have HNB := Lib.hid hnb
    rw [hnb]
    clear hnb
    cases nb
    · have HR := HWP.out
      rw [HNB.out] at HR
      have HRR : Hid (wordP l = none) := Lib.hid HR
      clear HR
      go_wp2_with fail
      go_step3
      refine ⟨rfl, ?_⟩
      show Code.wp _ _ _ _ _
      go_wp2_with fail
      rw [Exit.noGoto_ret]
      refine bodyPost_ret (v := .tuple #[wdV 0 0 0 ⟨#[]⟩, .int .i64 0]) (by simp [results, Tryd.results45, go_sem, wdV, *]) rfl ⟨by rw [HRR.out]; rfl, ?_⟩
      repeat (first | exact HEW.out | refine Ext.setCell ?_ (by simp) _)
    · have HR := HWP.out
      rw [HNB.out] at HR
      have HRR : Hid (wordP l = some (⟨0, l.take n, 0, 0⟩, n)) := Lib.hid HR
      clear HR
      go_wp2_with fail
      simp only [Exit.jump]
      refine bodyPost_ret (v := .tuple #[wdV 0 0 0 (s.extract 0 n), .int .i64 (n : Int)]) (by simp [results, Tryd.results45, go_sem, wdV, *]) rfl ⟨?_, ?_⟩
      · rw [HRR.out]
        rw [str_of HX.out]; rfl
      · repeat (first | exact HEW.out | refine Ext.setCell ?_ (by simp) _)
  · go_region_held3 (fun w' => w'.cell? ⟨w.heap.size + 1, 1, none⟩ = some (.string (s.extract 0 n))) (go_keep)
      ((go_at_call 25; refine (language_any _ (HL0.out.ext (Ext.refl W0).drew).asc).mono ?_; rintro e w1 ⟨rfl, he1, hm1⟩; have hm2 : w1.heap[W0.heap.size]? = some (.map (ents (onesM keyW) 0).toArray 19) := hm1; have HE1 := Lib.hid he1; have x2 : w1.cell? ⟨w.heap.size + 1, 1, none⟩ = some (.string (s.extract 0 n)) := ((b1.out.drew).ext HE1.out).cell 1; have lk := run_lookup_lit Tryd.underlying47 Tryd.underlying9 rfl _ 19 _ (.string (s.extract 0 n)) (.int .i64 1) hm2 (ones_yes _ keyW HKW.out) false; simp only [Bool.false_eq_true, if_false] at lk; clear hm1 hm2 he1))
    clear x1 x2
    have EW : Hid (Ext W0 w1) := Lib.hid ((Ext.refl W0).drew.trans HE1.out)
    have B0 : Hid (Blk w1 w.heap.size 31 #[.int .i64 0, .string ⟨#[]⟩, .int .i64 0, .int .i64 0]) := Lib.hid (b0.out.ext EW.out)
    have B1 : Hid (Blk w1 (w.heap.size + 1) 31 #[.int .i64 0, .string (s.extract 0 n), .int .i64 0, .int .i64 0]) := Lib.hid (b1.out.ext EW.out)
    have p0 : w1.cell? ⟨w.heap.size, 0, none⟩ = some (.int .i64 0) := B0.out.cell 0
    have p1 : w1.cell? ⟨w.heap.size, 1, none⟩ = some (.string ⟨#[]⟩) := B0.out.cell 1
    have p2 : w1.cell? ⟨w.heap.size, 2, none⟩ = some (.int .i64 0) := B0.out.cell 2
    have p3 : w1.cell? ⟨w.heap.size, 3, none⟩ = some (.int .i64 0) := B0.out.cell 3
    have q0 : w1.cell? ⟨w.heap.size + 1, 0, none⟩ = some (.int .i64 0) := B1.out.cell 0
    have q1 : w1.cell? ⟨w.heap.size + 1, 1, none⟩ = some (.string (s.extract 0 n)) := B1.out.cell 1
    have q2 : w1.cell? ⟨w.heap.size + 1, 2, none⟩ = some (.int .i64 0) := B1.out.cell 2
    have q3 : w1.cell? ⟨w.heap.size + 1, 3, none⟩ = some (.int .i64 0) := B1.out.cell 3
    have f0 : ∀ o, w1.frozen? ⟨w.heap.size, o, none⟩ = false := fun o => B0.out.frozen o
    have f1 : ∀ o, w1.frozen? ⟨w.heap.size + 1, o, none⟩ = false := fun o => B1.out.frozen o
    have hlt : w.heap.size + 1 < w1.heap.size := B1.out.lt
    have HEW : Hid (Ext w w1) := Lib.hid (HE0.out.trans EW.out)
    have HRR : Hid (wordP l = some (⟨1, l.take n, 0, 0⟩, n)) := Lib.hid HWP.out
    go_wp2_with fail
    simp only [Exit.jump]
    refine bodyPost_ret (v := .tuple #[wdV 1 0 0 (s.extract 0 n), .int .i64 (n : Int)]) (by simp [results, Tryd.results45, go_sem, wdV, *]) rfl ⟨?_, ?_⟩
    · rw [HRR.out]
      rw [str_of HX.out]; rfl
    · repeat (first | exact HEW.out | refine Ext.setCell ?_ (by simp) _)
set_option maxRecDepth 100000 in
set_option maxHeartbeats 2000000 in
theorem word_dig_any (w : World) (s : ByteArray) (l : List UInt8) (hl : s.data.toList = l) (n : Nat) (hn : runP l = n) (h0 : 0 < n) (hlet : headB letB l = false) (hmax : s.size ≤ 140737488355000) (hL : Laid w) :
    Calls Tryd.prog 45 #[.string s] w fun e w' => e = .returned (wrdV (wordP l)) ∧ Ext w w' := by
  have hln : n ≤ l.length := by rw [← hn]; exact run_len l
  have hsz : l.length = s.size := by rw [← hl]; rfl
  have hs0 : 0 < s.size := by omega
  have hns : n ≤ s.size := by omega
  obtain ⟨c, hc⟩ : ∃ c, s[0]'hs0 = c := ⟨_, rfl⟩
  have hcl : letB c = false := by
    rw [head_get (by omega)] at hlet
    rw [← hlet, ← hc, ← str_get s 0 hs0]; congr 1; exact get_of hl _
  have HW : Hid (wordP l = (numP (l.take n)).map fun (x : Nat) => ((⟨2, [], (x : Int), 0⟩ : Wd), n)) := Lib.hid (by
    unfold wordP; rw [hn, if_pos h0, if_neg (by rw [hlet]; simp)])
  have hex : (s.extract 0 n).data.toList = l.take n := by rw [Lib.extract_data, hl, List.drop_zero, Nat.sub_zero]
  have hxs : (s.extract 0 n).size = n := by
    have e : (s.extract 0 n).data.toList.length = n := by rw [hex, List.length_take]; omega
    exact e
  have HXS := Lib.hid hxs
  have HX := Lib.hid hex
  have HL := Lib.hid hL
  have HLL := Lib.hid hl
  have HN := Lib.hid hn
  have HC := Lib.hid hcl
  have dn : decide ((0 : Int) < (n : Int)) = true := decide_eq_true (by omega)
  have dnn : decide (0 < n) = true := decide_eq_true h0
  have HSZ := Lib.hid hsz
  clear hl hn hlet hL hex hcl hsz hxs
  go_enter Tryd.func45, Tryd.ntmps45
  go_wp2_with fail
  refine wp_scope_fwd 0 rfl ?_
  go_wp2_with fail
  refine (run_any _ s (by omega)).mono ?_
  rintro e w' ⟨rfl, rfl⟩
  rw [HLL.out, HN.out]
  go_wp2_with fail
  refine (letter_any _ c).mono ?_
  rintro e w' ⟨rfl, rfl⟩
  rw [HC.out]
  go_wp2_with fail
  obtain ⟨W0, hW0⟩ : ∃ W0, (w.alloc (.cells #[.int .i64 0, .string ⟨#[]⟩, .int .i64 0, .int .i64 0] 31)).alloc (.cells #[.int .i64 0, .string ⟨#[]⟩, .int .i64 0, .int .i64 0] 31) = W0 := ⟨_, rfl⟩
  have b0 : Hid (Blk W0 w.heap.size 31 #[.int .i64 0, .string ⟨#[]⟩, .int .i64 0, .int .i64 0]) := Lib.hid (by rw [← hW0]; exact (Blk.new w _ _).alloc _)
  have b1 : Hid (Blk W0 (w.heap.size + 1) 31 #[.int .i64 0, .string ⟨#[]⟩, .int .i64 0, .int .i64 0]) := Lib.hid (by rw [← hW0]; exact new_at (size_alloc _ _).symm _)
  have HE0 : Hid (Ext w W0) := Lib.hid (by rw [← hW0]; exact ((Ext.refl w).alloc _).alloc _)
  rw [hW0]
  clear hW0
  have HL0 := Lib.hid (HL.out.ext HE0.out)
  refine (parse63 (s.extract 0 n) (by rw [HXS.out]; omega) (by rw [HXS.out]; omega) W0 HL0.out).mono ?_
  rintro e w2 ⟨u, ev, rfl, he2, hr⟩
  rw [HX.out] at hr
  have EW : Hid (Ext W0 w2) := Lib.hid he2
  clear he2
  have B0 : Hid (Blk w2 w.heap.size 31 #[.int .i64 0, .string ⟨#[]⟩, .int .i64 0, .int .i64 0]) := Lib.hid (b0.out.ext EW.out)
  have B1 : Hid (Blk w2 (w.heap.size + 1) 31 #[.int .i64 0, .string ⟨#[]⟩, .int .i64 0, .int .i64 0]) := Lib.hid (b1.out.ext EW.out)
  have p0 : w2.cell? ⟨w.heap.size, 0, none⟩ = some (.int .i64 0) := B0.out.cell 0
  have p1 : w2.cell? ⟨w.heap.size, 1, none⟩ = some (.string ⟨#[]⟩) := B0.out.cell 1
  have p2 : w2.cell? ⟨w.heap.size, 2, none⟩ = some (.int .i64 0) := B0.out.cell 2
  have p3 : w2.cell? ⟨w.heap.size, 3, none⟩ = some (.int .i64 0) := B0.out.cell 3
  have q0 : w2.cell? ⟨w.heap.size + 1, 0, none⟩ = some (.int .i64 0) := B1.out.cell 0
  have q1 : w2.cell? ⟨w.heap.size + 1, 1, none⟩ = some (.string ⟨#[]⟩) := B1.out.cell 1
  have q2 : w2.cell? ⟨w.heap.size + 1, 2, none⟩ = some (.int .i64 0) := B1.out.cell 2
  have q3 : w2.cell? ⟨w.heap.size + 1, 3, none⟩ = some (.int .i64 0) := B1.out.cell 3
  have f0 : ∀ o, w2.frozen? ⟨w.heap.size, o, none⟩ = false := fun o => B0.out.frozen o
  have f1 : ∀ o, w2.frozen? ⟨w.heap.size + 1, o, none⟩ = false := fun o => B1.out.frozen o
  have hlt : w.heap.size + 1 < w2.heap.size := B1.out.lt
  have HEW : Hid (Ext w w2) := Lib.hid (HE0.out.trans EW.out)
  rcases hr.out with ⟨v, hv, rfl, rfl⟩ | ⟨hv, T, p, rfl⟩
  · have hvm : v ≤ 9223372036854775807 := by
      unfold numP at hv
      split at hv
      · rename_i hh
        injection hv with e
        rw [← e]; exact hh.2
      · cases hv
    have hvi : (v : Int) ≤ 9223372036854775807 := by omega
    have HRR : Hid (wordP l = some (⟨2, [], (v : Int), 0⟩, n)) := Lib.hid (by rw [HW.out, hv]; rfl)
    clear hv hr hvm
    go_wp2_with fail
    simp only [Exit.jump]
    refine bodyPost_ret (v := .tuple #[wdV 2 (v : Int) 0 ⟨#[]⟩, .int .i64 (n : Int)]) (by simp [results, Tryd.results45, go_sem, wdV, *]) rfl ⟨?_, ?_⟩
    · rw [HRR.out]
      rfl
    · repeat (first | exact HEW.out | refine Ext.setCell ?_ (by simp) _)
  · have HRR : Hid (wordP l = none) := Lib.hid (by rw [HW.out, hv]; rfl)
    clear hv hr
    go_wp2_with fail
    go_step3
    refine ⟨rfl, ?_⟩
    show Code.wp _ _ _ _ _
    go_wp2_with fail
    rw [Exit.noGoto_ret]
    refine bodyPost_ret (v := .tuple #[wdV 0 0 0 ⟨#[]⟩, .int .i64 0]) (by simp [results, Tryd.results45, go_sem, wdV, *]) rfl ⟨by rw [HRR.out]; rfl, ?_⟩
    repeat (first | exact HEW.out | refine Ext.setCell ?_ (by simp) _)
set_option maxRecDepth 100000 in
set_option maxHeartbeats 2000000 in
theorem word_q39_any (w : World) (s : ByteArray) (c : UInt8) (t : List UInt8) (hl : s.data.toList = c :: t) (hn : runP (c :: t) = 0) (hq : c.toNat = 39) (hmax : s.size ≤ 140737488355000) (hL : Laid w) :
    Calls Tryd.prog 45 #[.string s] w fun e w' => e = .returned (wrdV (wordP (c :: t))) ∧ Ext w w' := by
  have hsz : (c :: t).length = s.size := by rw [← hl]; rfl
  have hs0 : 0 < s.size := by rw [← hsz]; simp
  have hc : s[0]'hs0 = c := by rw [← str_get s 0 hs0, get_of hl]; rfl
  have HW : Hid (wordP (c :: t) = (textP c t).map fun x => (⟨3, x.1, 0, 0⟩, x.2 + 1)) := Lib.hid (by
    unfold wordP; rw [hn, if_neg (by omega)]; unfold wordQ; dsimp only; rw [if_pos (by omega)])
  have HL := Lib.hid hL
  have HLL := Lib.hid hl
  have HN := Lib.hid hn
  have HSZ := Lib.hid hsz
  have d39 : ((c.toNat : Int) == 39) = true := by rw [hq]; rfl
  have d34 : ((c.toNat : Int) == 34) = false := by rw [hq]; rfl
  have HQ := Lib.hid hq
  clear hl hn hL hsz hq
  go_enter Tryd.func45, Tryd.ntmps45
  go_wp2_with fail
  refine wp_scope_fwd 0 rfl ?_
  go_wp2_with fail
  refine (run_any _ s (by omega)).mono ?_
  rintro e w' ⟨rfl, rfl⟩
  rw [HLL.out, HN.out]
  go_wp2_with fail
  obtain ⟨W0, hW0⟩ : ∃ W0, (w.alloc (.cells #[.int .i64 0, .string ⟨#[]⟩, .int .i64 0, .int .i64 0] 31)).alloc (.cells #[.int .i64 0, .string ⟨#[]⟩, .int .i64 0, .int .i64 0] 31) = W0 := ⟨_, rfl⟩
  have b0 : Hid (Blk W0 w.heap.size 31 #[.int .i64 0, .string ⟨#[]⟩, .int .i64 0, .int .i64 0]) := Lib.hid (by rw [← hW0]; exact (Blk.new w _ _).alloc _)
  have b1 : Hid (Blk W0 (w.heap.size + 1) 31 #[.int .i64 0, .string ⟨#[]⟩, .int .i64 0, .int .i64 0]) := Lib.hid (by rw [← hW0]; exact new_at (size_alloc _ _).symm _)
  have HE0 : Hid (Ext w W0) := Lib.hid (by rw [← hW0]; exact ((Ext.refl w).alloc _).alloc _)
  rw [hW0]
  clear hW0
  have HL0 := Lib.hid (HL.out.ext HE0.out)
  refine (text_any W0 s c t HLL.out hmax).mono ?_
  rintro e w2 ⟨rfl, he2⟩
  have EW : Hid (Ext W0 w2) := Lib.hid he2
  clear he2
  have B0 : Hid (Blk w2 w.heap.size 31 #[.int .i64 0, .string ⟨#[]⟩, .int .i64 0, .int .i64 0]) := Lib.hid (b0.out.ext EW.out)
  have B1 : Hid (Blk w2 (w.heap.size + 1) 31 #[.int .i64 0, .string ⟨#[]⟩, .int .i64 0, .int .i64 0]) := Lib.hid (b1.out.ext EW.out)
  have p0 : w2.cell? ⟨w.heap.size, 0, none⟩ = some (.int .i64 0) := B0.out.cell 0
  have p1 : w2.cell? ⟨w.heap.size, 1, none⟩ = some (.string ⟨#[]⟩) := B0.out.cell 1
  have p2 : w2.cell? ⟨w.heap.size, 2, none⟩ = some (.int .i64 0) := B0.out.cell 2
  have p3 : w2.cell? ⟨w.heap.size, 3, none⟩ = some (.int .i64 0) := B0.out.cell 3
  have q0 : w2.cell? ⟨w.heap.size + 1, 0, none⟩ = some (.int .i64 0) := B1.out.cell 0
  have q1 : w2.cell? ⟨w.heap.size + 1, 1, none⟩ = some (.string ⟨#[]⟩) := B1.out.cell 1
  have q2 : w2.cell? ⟨w.heap.size + 1, 2, none⟩ = some (.int .i64 0) := B1.out.cell 2
  have q3 : w2.cell? ⟨w.heap.size + 1, 3, none⟩ = some (.int .i64 0) := B1.out.cell 3
  have f0 : ∀ o, w2.frozen? ⟨w.heap.size, o, none⟩ = false := fun o => B0.out.frozen o
  have f1 : ∀ o, w2.frozen? ⟨w.heap.size + 1, o, none⟩ = false := fun o => B1.out.frozen o
  have hlt : w.heap.size + 1 < w2.heap.size := B1.out.lt
  have HEW : Hid (Ext w w2) := Lib.hid (HE0.out.trans EW.out)
  obtain ⟨y, hy⟩ : ∃ y, textP c t = y := ⟨_, rfl⟩
  have HW2 := HW.out
  rw [hy] at HW2
  rw [hy]
  have HY := Lib.hid hy
  clear hy
  cases y with
  | none =>
    have HRR : Hid (wordP (c :: t) = none) := Lib.hid HW2
    clear HW2
    simp only [txtV]
    go_wp2_with fail
    go_step3
    refine ⟨rfl, ?_⟩
    show Code.wp _ _ _ _ _
    go_wp2_with fail
    rw [Exit.noGoto_ret]
    refine bodyPost_ret (v := .tuple #[wdV 0 0 0 ⟨#[]⟩, .int .i64 0]) (by simp [results, Tryd.results45, go_sem, wdV, *]) rfl ⟨by rw [HRR.out]; rfl, ?_⟩
    repeat (first | exact HEW.out | refine Ext.setCell ?_ (by simp) _)
  | some x =>
    obtain ⟨x, m⟩ := x
    have HRR : Hid (wordP (c :: t) = some (⟨3, x, 0, 0⟩, m + 1)) := Lib.hid HW2
    have hm1 : (((m + 1 : Nat) : Int) == 0) = false := by rw [beq_eq_false_iff_ne]; omega
    obtain ⟨j, hj⟩ : ∃ j, m + 1 = j := ⟨_, rfl⟩
    clear HW2
    simp only [txtV]
    rw [hj] at hm1 ⊢
    have HJ := Lib.hid hj
    clear hj
    go_wp2_with fail
    simp only [Exit.jump]
    refine bodyPost_ret (v := .tuple #[wdV 3 0 0 ⟨x.toArray⟩, .int .i64 (j : Int)]) (by simp [results, Tryd.results45, go_sem, wdV, *]) rfl ⟨?_, ?_⟩
    · rw [HRR.out]
      rw [HJ.out]; rfl
    · repeat (first | exact HEW.out | refine Ext.setCell ?_ (by simp) _)
set_option maxRecDepth 100000 in
set_option maxHeartbeats 2000000 in
theorem word_q34_any (w : World) (s : ByteArray) (c : UInt8) (t : List UInt8) (hl : s.data.toList = c :: t) (hn : runP (c :: t) = 0) (hq : c.toNat = 34) (hmax : s.size ≤ 140737488355000) (hL : Laid w) :
    Calls Tryd.prog 45 #[.string s] w fun e w' => e = .returned (wrdV (wordP (c :: t))) ∧ Ext w w' := by
  have hsz : (c :: t).length = s.size := by rw [← hl]; rfl
  have hs0 : 0 < s.size := by rw [← hsz]; simp
  have hc : s[0]'hs0 = c := by rw [← str_get s 0 hs0, get_of hl]; rfl
  have HW : Hid (wordP (c :: t) = (textP c t).map fun x => (⟨3, x.1, 0, 0⟩, x.2 + 1)) := Lib.hid (by
    unfold wordP; rw [hn, if_neg (by omega)]; unfold wordQ; dsimp only; rw [if_pos (by omega)])
  have HL := Lib.hid hL
  have HLL := Lib.hid hl
  have HN := Lib.hid hn
  have HSZ := Lib.hid hsz
  have d39 : ((c.toNat : Int) == 39) = false := by rw [hq]; rfl
  have d34 : ((c.toNat : Int) == 34) = true := by rw [hq]; rfl
  have HQ := Lib.hid hq
  clear hl hn hL hsz hq
  go_enter Tryd.func45, Tryd.ntmps45
  go_wp2_with fail
  refine wp_scope_fwd 0 rfl ?_
  go_wp2_with fail
  refine (run_any _ s (by omega)).mono ?_
  rintro e w' ⟨rfl, rfl⟩
  rw [HLL.out, HN.out]
  go_wp2_with fail
  obtain ⟨W0, hW0⟩ : ∃ W0, (w.alloc (.cells #[.int .i64 0, .string ⟨#[]⟩, .int .i64 0, .int .i64 0] 31)).alloc (.cells #[.int .i64 0, .string ⟨#[]⟩, .int .i64 0, .int .i64 0] 31) = W0 := ⟨_, rfl⟩
  have b0 : Hid (Blk W0 w.heap.size 31 #[.int .i64 0, .string ⟨#[]⟩, .int .i64 0, .int .i64 0]) := Lib.hid (by rw [← hW0]; exact (Blk.new w _ _).alloc _)
  have b1 : Hid (Blk W0 (w.heap.size + 1) 31 #[.int .i64 0, .string ⟨#[]⟩, .int .i64 0, .int .i64 0]) := Lib.hid (by rw [← hW0]; exact new_at (size_alloc _ _).symm _)
  have HE0 : Hid (Ext w W0) := Lib.hid (by rw [← hW0]; exact ((Ext.refl w).alloc _).alloc _)
  rw [hW0]
  clear hW0
  have HL0 := Lib.hid (HL.out.ext HE0.out)
  refine (text_any W0 s c t HLL.out hmax).mono ?_
  rintro e w2 ⟨rfl, he2⟩
  have EW : Hid (Ext W0 w2) := Lib.hid he2
  clear he2
  have B0 : Hid (Blk w2 w.heap.size 31 #[.int .i64 0, .string ⟨#[]⟩, .int .i64 0, .int .i64 0]) := Lib.hid (b0.out.ext EW.out)
  have B1 : Hid (Blk w2 (w.heap.size + 1) 31 #[.int .i64 0, .string ⟨#[]⟩, .int .i64 0, .int .i64 0]) := Lib.hid (b1.out.ext EW.out)
  have p0 : w2.cell? ⟨w.heap.size, 0, none⟩ = some (.int .i64 0) := B0.out.cell 0
  have p1 : w2.cell? ⟨w.heap.size, 1, none⟩ = some (.string ⟨#[]⟩) := B0.out.cell 1
  have p2 : w2.cell? ⟨w.heap.size, 2, none⟩ = some (.int .i64 0) := B0.out.cell 2
  have p3 : w2.cell? ⟨w.heap.size, 3, none⟩ = some (.int .i64 0) := B0.out.cell 3
  have q0 : w2.cell? ⟨w.heap.size + 1, 0, none⟩ = some (.int .i64 0) := B1.out.cell 0
  have q1 : w2.cell? ⟨w.heap.size + 1, 1, none⟩ = some (.string ⟨#[]⟩) := B1.out.cell 1
  have q2 : w2.cell? ⟨w.heap.size + 1, 2, none⟩ = some (.int .i64 0) := B1.out.cell 2
  have q3 : w2.cell? ⟨w.heap.size + 1, 3, none⟩ = some (.int .i64 0) := B1.out.cell 3
  have f0 : ∀ o, w2.frozen? ⟨w.heap.size, o, none⟩ = false := fun o => B0.out.frozen o
  have f1 : ∀ o, w2.frozen? ⟨w.heap.size + 1, o, none⟩ = false := fun o => B1.out.frozen o
  have hlt : w.heap.size + 1 < w2.heap.size := B1.out.lt
  have HEW : Hid (Ext w w2) := Lib.hid (HE0.out.trans EW.out)
  obtain ⟨y, hy⟩ : ∃ y, textP c t = y := ⟨_, rfl⟩
  have HW2 := HW.out
  rw [hy] at HW2
  rw [hy]
  have HY := Lib.hid hy
  clear hy
  cases y with
  | none =>
    have HRR : Hid (wordP (c :: t) = none) := Lib.hid HW2
    clear HW2
    simp only [txtV]
    go_wp2_with fail
    go_step3
    refine ⟨rfl, ?_⟩
    show Code.wp _ _ _ _ _
    go_wp2_with fail
    rw [Exit.noGoto_ret]
    refine bodyPost_ret (v := .tuple #[wdV 0 0 0 ⟨#[]⟩, .int .i64 0]) (by simp [results, Tryd.results45, go_sem, wdV, *]) rfl ⟨by rw [HRR.out]; rfl, ?_⟩
    repeat (first | exact HEW.out | refine Ext.setCell ?_ (by simp) _)
  | some x =>
    obtain ⟨x, m⟩ := x
    have HRR : Hid (wordP (c :: t) = some (⟨3, x, 0, 0⟩, m + 1)) := Lib.hid HW2
    have hm1 : (((m + 1 : Nat) : Int) == 0) = false := by rw [beq_eq_false_iff_ne]; omega
    obtain ⟨j, hj⟩ : ∃ j, m + 1 = j := ⟨_, rfl⟩
    clear HW2
    simp only [txtV]
    rw [hj] at hm1 ⊢
    have HJ := Lib.hid hj
    clear hj
    go_wp2_with fail
    simp only [Exit.jump]
    refine bodyPost_ret (v := .tuple #[wdV 3 0 0 ⟨x.toArray⟩, .int .i64 (j : Int)]) (by simp [results, Tryd.results45, go_sem, wdV, *]) rfl ⟨?_, ?_⟩
    · rw [HRR.out]
      rw [HJ.out]; rfl
    · repeat (first | exact HEW.out | refine Ext.setCell ?_ (by simp) _)
theorem idx_sign (w : World) : ∀ k : Nat, (h : k < 24) → (Instr.index 80 (.agg signV) (.int .i64 (k : Int))).run Tryd.prog w = .ok (.string (signW.getD k ⟨#[]⟩)) w
  | 0, _ => by kernel_rfl
  | 1, _ => by kernel_rfl
  | 2, _ => by kernel_rfl
  | 3, _ => by kernel_rfl
  | 4, _ => by kernel_rfl
  | 5, _ => by kernel_rfl
  | 6, _ => by kernel_rfl
  | 7, _ => by kernel_rfl
  | 8, _ => by kernel_rfl
  | 9, _ => by kernel_rfl
  | 10, _ => by kernel_rfl
  | 11, _ => by kernel_rfl
  | 12, _ => by kernel_rfl
  | 13, _ => by kernel_rfl
  | 14, _ => by kernel_rfl
  | 15, _ => by kernel_rfl
  | 16, _ => by kernel_rfl
  | 17, _ => by kernel_rfl
  | 18, _ => by kernel_rfl
  | 19, _ => by kernel_rfl
  | 20, _ => by kernel_rfl
  | 21, _ => by kernel_rfl
  | 22, _ => by kernel_rfl
  | 23, _ => by kernel_rfl
  | k + 24, h => by omega
set_option maxRecDepth 100000 in
set_option maxHeartbeats 2000000 in
theorem word_sign_any (w : World) (s : ByteArray) (c : UInt8) (t : List UInt8) (hl : s.data.toList = c :: t) (hn : runP (c :: t) = 0) (hq : ¬ c.toNat = 39) (hq2 : ¬ c.toNat = 34) (hmax : s.size ≤ 140737488355000) (hL : Laid w) :
    Calls Tryd.prog 45 #[.string s] w fun e w' => e = .returned (wrdV (wordP (c :: t))) ∧ Ext w w' := by
  have hsz : (c :: t).length = s.size := by rw [← hl]; rfl
  have hs0 : 0 < s.size := by rw [← hsz]; simp
  have hc : s[0]'hs0 = c := by rw [← str_get s 0 hs0, get_of hl]; rfl
  have HW : Hid (wordP (c :: t) = (signL.find? fun x => preB x (c :: t)).map fun x => (⟨4, x, 0, 0⟩, x.length)) := Lib.hid (by
    unfold wordP; rw [hn, if_neg (by omega)]; unfold wordQ; dsimp only; rw [if_neg (by omega)])
  have HL := Lib.hid hL
  have HLL := Lib.hid hl
  have HN := Lib.hid hn
  have HSZ := Lib.hid hsz
  have d39 : ((c.toNat : Int) == 39) = false := by rw [beq_eq_false_iff_ne]; omega
  have d34 : ((c.toNat : Int) == 34) = false := by rw [beq_eq_false_iff_ne]; omega
  clear hl hn hL hsz hq hq2
  go_enter Tryd.func45, Tryd.ntmps45
  go_wp2_with fail
  refine wp_scope_fwd 0 rfl ?_
  go_wp2_with fail
  refine (run_any _ s (by omega)).mono ?_
  rintro e w' ⟨rfl, rfl⟩
  rw [HLL.out, HN.out]
  go_wp2_with fail
  obtain ⟨W0, hW0⟩ : ∃ W0, (w.alloc (.cells #[.int .i64 0, .string ⟨#[]⟩, .int .i64 0, .int .i64 0] 31)).alloc (.cells #[.int .i64 0, .string ⟨#[]⟩, .int .i64 0, .int .i64 0] 31) = W0 := ⟨_, rfl⟩
  have b0 : Hid (Blk W0 w.heap.size 31 #[.int .i64 0, .string ⟨#[]⟩, .int .i64 0, .int .i64 0]) := Lib.hid (by rw [← hW0]; exact (Blk.new w _ _).alloc _)
  have b1 : Hid (Blk W0 (w.heap.size + 1) 31 #[.int .i64 0, .string ⟨#[]⟩, .int .i64 0, .int .i64 0]) := Lib.hid (by rw [← hW0]; exact new_at (size_alloc _ _).symm _)
  have HE0 : Hid (Ext w W0) := Lib.hid (by rw [← hW0]; exact ((Ext.refl w).alloc _).alloc _)
  rw [hW0]
  clear hW0
  have HL0 := Lib.hid (HL.out.ext HE0.out)
  refine (signs_any W0).mono ?_
  rintro e w2 ⟨rfl, he2⟩
  have EW : Hid (Ext W0 w2) := Lib.hid he2
  clear he2
  have B0 : Hid (Blk w2 w.heap.size 31 #[.int .i64 0, .string ⟨#[]⟩, .int .i64 0, .int .i64 0]) := Lib.hid (b0.out.ext EW.out)
  have B1 : Hid (Blk w2 (w.heap.size + 1) 31 #[.int .i64 0, .string ⟨#[]⟩, .int .i64 0, .int .i64 0]) := Lib.hid (b1.out.ext EW.out)
  have p0 : w2.cell? ⟨w.heap.size, 0, none⟩ = some (.int .i64 0) := B0.out.cell 0
  have p1 : w2.cell? ⟨w.heap.size, 1, none⟩ = some (.string ⟨#[]⟩) := B0.out.cell 1
  have p2 : w2.cell? ⟨w.heap.size, 2, none⟩ = some (.int .i64 0) := B0.out.cell 2
  have p3 : w2.cell? ⟨w.heap.size, 3, none⟩ = some (.int .i64 0) := B0.out.cell 3
  have q0 : w2.cell? ⟨w.heap.size + 1, 0, none⟩ = some (.int .i64 0) := B1.out.cell 0
  have q1 : w2.cell? ⟨w.heap.size + 1, 1, none⟩ = some (.string ⟨#[]⟩) := B1.out.cell 1
  have q2 : w2.cell? ⟨w.heap.size + 1, 2, none⟩ = some (.int .i64 0) := B1.out.cell 2
  have q3 : w2.cell? ⟨w.heap.size + 1, 3, none⟩ = some (.int .i64 0) := B1.out.cell 3
  have f0 : ∀ o, w2.frozen? ⟨w.heap.size, o, none⟩ = false := fun o => B0.out.frozen o
  have f1 : ∀ o, w2.frozen? ⟨w.heap.size + 1, o, none⟩ = false := fun o => B1.out.frozen o
  have hlt : w.heap.size + 1 < w2.heap.size := B1.out.lt
  have HEW : Hid (Ext w w2) := Lib.hid (HE0.out.trans EW.out)
  have HV : Hid (∀ w, ∀ k : Nat, (h : k < 24) → (Instr.index 80 (.agg signV) (.int .i64 (k : Int))).run Tryd.prog w = .ok (.string (signW.getD k ⟨#[]⟩)) w) := Lib.hid idx_sign
  obtain ⟨sv, hsv⟩ : ∃ sv, signV = sv := ⟨_, rfl⟩
  rw [hsv] at HV ⊢
  clear hsv
  go_wp2_with fail
  go_loopw [75] (fun v wr => ∃ k : Nat, v = .int .i64 (k : Int) ∧ k ≤ 24 ∧ wr = w2 ∧ Hid ((signL.drop k).find? (fun x => preB x (c :: t)) = signL.find? fun x => preB x (c :: t))) (fun v _ => 24 - (intOf v).toNat)
  case atStart => exact ⟨0, rfl, by omega, rfl, Lib.hid rfl⟩
  case round =>
    obtain ⟨k, rfl, hk, rfl, HK⟩ := hrel
    by_cases hkn : k < 24
    · have d1 : decide ((k : Int) < 24) = true := decide_eq_true (by omega)
      have d1n : decide (k < 24) = true := decide_eq_true hkn
      have ix := HV.out wr k hkn
      have hkl : k < signL.length := hkn
      obtain ⟨x, hx⟩ : ∃ x, signL[k]'hkl = x := ⟨_, rfl⟩
      have hxw : signW.getD k ⟨#[]⟩ = ⟨x.toArray⟩ := by rw [← hx, List.getD_eq_getElem?_getD, signW, List.getElem?_map, List.getElem?_eq_getElem hkl]; rfl
      rw [hxw] at ix
      have hK := HK.out
      rw [List.drop_eq_getElem_cons hkl, hx, List.find?_cons] at hK
      have HXM : Hid (x ∈ signL) := Lib.hid (by rw [← hx]; exact List.getElem_mem _)
      have HKK := Lib.hid hK
      clear hx hxw hK HK
      go_wp2_with fail
      refine (Tryd.strings_HasPrefix _ _ _).mono ?_
      rintro e w' ⟨rfl, rfl⟩
      have e0 : Lib.hasPrefix s.data.toList (⟨x.toArray⟩ : ByteArray).data.toList = preB x (c :: t) := by rw [HLL.out]; rfl
      rw [e0]
      obtain ⟨pb, hpb⟩ : ∃ pb, preB x (c :: t) = pb := ⟨_, rfl⟩
      have hK := HKK.out
      rw [hpb] at hK ⊢
      have HP := Lib.hid hpb
      clear e0 hpb
      cases pb
      · have HK2 := Lib.hid hK
        clear hK
        go_wp2_with fail
        go_roundw
        case rel => exact ⟨k + 1, by simp, by omega, by first | rfl | trivial, HK2⟩
        case measure => simp [intOf]; omega
      · have HRR : Hid (wordP (c :: t) = some (⟨4, x, 0, 0⟩, x.length)) := Lib.hid (by rw [HW.out, ← hK]; rfl)
        have HSX : Hid ((⟨x.toArray⟩ : ByteArray).size = x.length) := Lib.hid rfl
        clear hK
        go_wp2_with fail
        simp only [Exit.jump]
        refine bodyPost_ret (v := .tuple #[wdV 4 0 0 ⟨x.toArray⟩, .int .i64 (x.length : Int)]) (by simp [results, Tryd.results45, go_sem, wdV, *]) rfl ⟨?_, ?_⟩
        · rw [HRR.out]
          rfl
        · repeat (first | exact HEW.out | refine Ext.setCell ?_ (by simp) _)
    · obtain rfl : k = 24 := by omega
      have hK := HK.out
      have HRR : Hid (wordP (c :: t) = none) := Lib.hid (by rw [HW.out, ← hK]; rfl)
      clear hK
      go_wp2_with fail
      go_step3
      go_wp2_with fail
      simp only [Exit.jump]
      refine bodyPost_ret (v := .tuple #[wdV 0 0 0 ⟨#[]⟩, .int .i64 0]) (by simp [results, Tryd.results45, go_sem, wdV, *]) rfl ⟨by rw [HRR.out]; rfl, ?_⟩
      repeat (first | exact HEW.out | refine Ext.setCell ?_ (by simp) _)
theorem word_any (w : World) (s : ByteArray) (hne : s.size ≠ 0) (hmax : s.size ≤ 140737488355000) (hL : Laid w) :
    Calls Tryd.prog 45 #[.string s] w fun e w' => e = .returned (wrdV (wordP s.data.toList)) ∧ Ext w w' := by
  by_cases h0 : 0 < runP s.data.toList
  · cases hh : headB letB s.data.toList
    · exact word_dig_any w s _ rfl _ rfl h0 hh hmax hL
    · exact word_let_any w s _ rfl _ rfl h0 hh hmax hL
  · obtain ⟨l, hl⟩ : ∃ l, s.data.toList = l := ⟨_, rfl⟩
    rw [hl] at h0 ⊢
    have hlen : l.length = s.size := by rw [← hl]; rfl
    cases l with
    | nil => exact absurd hlen.symm hne
    | cons c t =>
      by_cases h1 : c.toNat = 39
      · exact word_q39_any w s c t hl (by omega) h1 hmax hL
      by_cases h2 : c.toNat = 34
      · exact word_q34_any w s c t hl (by omega) h2 hmax hL
      · exact word_sign_any w s c t hl (by omega) h1 h2 hmax hL
end Go.Proofs.YthknpnhiijbgfaaDoor
