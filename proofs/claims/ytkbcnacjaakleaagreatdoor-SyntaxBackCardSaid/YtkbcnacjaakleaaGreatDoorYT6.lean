/- tabor.tree.Print: whatever the tree, if it is not too large. The law SyntaxBack, walked. -/
import Derived.Test.YtkbcnacjaakleaaGreatDoorYT5
import Derived.Test.YtkbcnacjaakleaaGreatDoorYP32
import Derived.Test.YtkbcnacjaakleaaGreatDoorYP33
import Derived.Test.YtkbcnacjaakleaaGreatDoorYScQ2
import Derived.Test.YtkbcnacjaakleaaGreatDoorYP37
set_option maxRecDepth 100000
set_option maxHeartbeats 32000000
set_option linter.unusedVariables false
set_option linter.unusedSimpArgs false
namespace Go.Proofs.YtkbcnacjaakleaaGreatDoor
open Go.RowKit

theorem wl_mem {l : List Wd} {w : Wd} (h : w ∈ l) : wl w ≤ tlen l := by
 induction l with
 | nil => simp at h
 | cons y l ih =>
  rw [tlen_cons]
  rcases List.mem_cons.1 h with rfl | h
  ·omega
  ·have := ih h; omega
theorem t_le {w : Wd} (h : mayP w = true) : w.t.length ≤ wl w := by have := told_t h; unfold wl; omega
theorem len_two : ∀ {l : List Wd}, AllG l → 2 * l.length ≤ tlen l
 | [], _ => by simp
 | y :: l, h => by
  have ih := len_two (l := l) (fun w hw => h w (List.mem_cons_of_mem _ hw))
  have h1 := told_pos (h y (List.mem_cons_self ..)).1
  rw [tlen_cons, List.length_cons]
  unfold wl
  omega
theorem len_tlen (l : List Wd) : l.length ≤ tlen l := by
 induction l with
 | nil => simp
 | cons y l ih => rw [tlen_cons, List.length_cons]; unfold wl; omega
def printR (x : Nd) : ByteArray × Int := if checkN x = true then (⟨(joinP (tellN x)).toArray⟩, 0) else (⟨#[]⟩, 2)
theorem sprint_any (w : World) (hL : Laid w) (d : Nat) (u : Value) (x : Nd) (hs : SzN x) (hn : NodeAt (· < w.heap.size) w d u x) (ht : checkN x = true → tlen (tellN x) ≤ 1048576) :
  Calls Tryz.prog 24 #[u] w fun e w' => e = .returned (.tuple #[.string (printR x).1, .int .i64 (printR x).2]) ∧ Ext w w' := by
 obtain ⟨qn, cn, ql, cl, rfl, _, _⟩ := hn.parts
 have HND := Lib.hid (fun W (e : Ext w W) => hn.ext e)
 have HL := Lib.hid (fun W (e : Ext w W) => hL.ext e)
 have HSZ := Lib.hid hs
 generalize x.names.length = nn at *
 generalize x.kids.length = kn at *
 have HE := Lib.hid ((Ext.refl w).alloc (ndO x (.slice qn nn cn) (.slice ql kn cl)))
 have HB := Lib.hid (fun W => nd_box (w := w) (W := W) (x := x) (nv := .slice qn nn cn) (lv := .slice ql kn cl))
 unfold printR
 cases hc : checkN x with
 | false =>
  clear hn hL hs ht
  go_enter Tryz.func24, Tryz.ntmps24
  go_wp2_with fail
  generalize w.alloc (ndO x (.slice qn nn cn) (.slice ql kn cl)) = W0 at *
  refine (check_any d W0 (HL.out _ HE.out) _ _ x HSZ.out (HND.out _ HE.out)).mono ?_
  rintro e w1 ⟨rfl, e1⟩
  have HE1 := Lib.hid (HE.out.trans e1)
  rw [hc]
  simp only [Bool.false_eq_true, if_false]
  clear e1 hc
  go_wp2_with fail
  refine bodyPost_ret (v := .tuple #[.string ⟨#[]⟩, .int .i64 2]) (by simp [results, Tryz.results24, go_sem]) rfl ?_
  exact ⟨rfl, HE1.out⟩
 | true =>
  have hmay : mayN x = true := by
   simp only [checkN, Bool.and_eq_true] at hc
   exact hc.2
  have hk0 : x.k = 0 := by
   simp only [checkN, Bool.and_eq_true, beq_iff_eq] at hc
   exact hc.1.1
  have htl := ht hc
  have hbc := (tstm_all x hmay hs).2 hk0 d
  have hg := tell_may x hmay hs
  have HBC := Lib.hid hbc
  have HG := Lib.hid hg
  have HTL := Lib.hid htl
  have HC := Lib.hid hc
  clear hn hL hs ht hbc hg htl hk0 hmay hc
  go_enter Tryz.func24, Tryz.ntmps24
  go_wp2_with fail
  generalize w.alloc (ndO x (.slice qn nn cn) (.slice ql kn cl)) = W0 at *
  refine (check_any d W0 (HL.out _ HE.out) _ _ x HSZ.out (HND.out _ HE.out)).mono ?_
  rintro e w1 ⟨rfl, e1⟩
  have HE1 := Lib.hid (HE.out.trans e1)
  obtain ⟨b0, b1, b2, b3, b4, b5⟩ := HB.out w1 e1
  rw [HC.out]
  simp only [if_true]
  clear e1
  have hbl := cell_lt b0
  simp only at hbl
  go_wp2_with fail
  have HE2 := Lib.hid (HE1.out.alloc (.cells #[.slice none 0 0] 77))
  have HBT := Lib.hid (Blk.new w1 77 #[.slice none 0 0])
  obtain ⟨T, hT⟩ : ∃ T, w1.heap.size = T := ⟨_, rfl⟩
  have hle : w.heap.size ≤ T := by rw [← hT]; exact HE1.out.le
  generalize hW2 : w1.alloc (.cells #[.slice none 0 0] 77) = W2 at *
  rw [hT] at HBT ⊢
  have HG0 := Lib.hid (TG.start (l := []) HBT.out (OwnW.nil _ _))
  refine (HBC.out W2 T _ [] _ ((HND.out _ HE2.out).imp (fun b _ (hb : b < w.heap.size) => Nat.lt_of_lt_of_le hb hle)) HG0.out (by have := len_tlen (tellN x); have := HTL.out; simp; omega)).mono ?_
  rintro e w3 ⟨⟨_, rfl⟩, v3, S3⟩
  have HS3 := Lib.hid S3
  have hE3 : Ext w w3 := ⟨S3.os.trans HE2.out.os, S3.tape.trans HE2.out.tape, S3.output.trans HE2.out.output, Nat.le_trans HE2.out.le S3.size, fun k hk => (S3.keep k (Nat.lt_of_lt_of_le hk HE2.out.le) (by omega) (by simp [Value.ownBlock])).trans (HE2.out.block k hk)⟩
  have HE3 := Lib.hid hE3
  have c0 : w3.cell? ⟨T, 0, none⟩ = some v3 := S3.blk.cell 0
  have hTl := S3.blk.lt
  have HWA := Lib.hid (show WordsAt w3 v3 (tellN x) by simpa using S3.own.at)
  obtain ⟨q3, cc3, rfl⟩ := S3.own.slice
  clear S3 hE3 b0 b1 b2 b3 b4 b5 hW2
  go_wp2_with fail
  refine (print_any w3 _ (tellN x) (HL.out _ HE3.out) (by simpa using HWA.out) (by have := len_two HG.out; have := HTL.out; omega) (List.all_eq_true.2 fun y hy => (HG.out y hy).1) (fun y hy => (HG.out y hy).2) (fun y hy => by have := t_le (HG.out y hy).1; have := wl_mem hy; have := HTL.out; omega) (by have := tlen_join (tellN x); have := HTL.out; omega)).mono ?_
  rintro e w4 ⟨rfl, e4⟩
  have HE4 := Lib.hid (HE3.out.trans e4)
  clear e4 c0
  go_wp2_with fail
  refine bodyPost_ret (v := .tuple #[.string ⟨(joinP (tellN x)).toArray⟩, .int .i64 0]) (by simp [results, Tryz.results24, go_sem]) rfl ?_
  exact ⟨rfl, HE4.out⟩
def nd0 : Nd := .mk 0 eB eB 0 [] []
theorem nd0_check : checkN nd0 = true := by kernel_rfl
theorem nd0_sz : SzN nd0 := by
 simp only [nd0, SzN, SzL, In64]
 refine ⟨⟨by omega, by omega, by decide, by decide, by simp, fun s hs => by simp at hs, by simp⟩, trivial⟩
theorem nd0_tell : tellN nd0 = [] := by simp [nd0, tellN, tellL, tellK]
theorem nd0_at (ok : Nat → Prop) (w : World) : NodeAt ok w 0 zNd nd0 := ⟨.slice none 0 0, .slice none 0 0, rfl, TxtsAt.nil ok w, KidsAt.nil ok w 0⟩
theorem nd0_back : parseR (joinP (tellN nd0)) = .ok nd0 := parse_print nd0_check nd0_sz (by rw [nd0_tell]; simp [joinP])
theorem parse_got (w : World) (s : ByteArray) (hL : Laid w) (hs : s.size ≤ 2000) : Calls Tryz.prog 26 #[.string s] w fun e w' => Ext w w' ∧ ∃ v a c d x, e = .returned (.tuple #[v, .int .i64 a, .int .i64 c]) ∧ NodeAt (· < w'.heap.size) w' d v x ∧ SzN x ∧
  (¬ c = 0 → x = nd0) ∧ (c = 0 → checkN x = true ∧ tlen (tellN x) ≤ 1048576 ∧ parseR (joinP (tellN x)) = .ok x) := by
 refine (parse_any w s hL).mono ?_
 rintro e w' ⟨he, hm⟩
 refine ⟨he, ?_⟩
 have hsl : s.data.toList.length ≤ 2000 := hs
 cases hp : parseR s.data.toList with
 | error y =>
  rw [hp] at hm
  subst hm
  exact ⟨zNd, y.1, y.2, 0, nd0, rfl, nd0_at _ _, nd0_sz, fun _ => rfl, fun _ => ⟨nd0_check, by rw [nd0_tell]; decide, nd0_back⟩⟩
 | ok x =>
  rw [hp] at hm
  obtain ⟨v, d, rfl, hn⟩ := hm
  obtain ⟨_, h1, h2, h3⟩ := parse_ok hp
  obtain ⟨h4, h5⟩ := back_plain hsl hp
  have h6 : wtN x = tlen (tellN x) + txN x + cntN x := rfl
  exact ⟨v, 0, 0, d, x, rfl, hn.imp (fun b hb _ => hb), h2, fun h => absurd rfl h, fun _ => ⟨h1, by omega, h5⟩⟩
theorem parse_back (w : World) (x : Nd) (hL : Laid w) (hx : parseR (joinP (tellN x)) = .ok x) : Calls Tryz.prog 26 #[.string ⟨(joinP (tellN x)).toArray⟩] w fun e w' => Ext w w' ∧ ∃ v d, e = .returned (.tuple #[v, .int .i64 0, .int .i64 0]) ∧ NodeAt (· < w'.heap.size) w' d v x := by
 refine (parse_any w _ hL).mono ?_
 rintro e w' ⟨he, hm⟩
 have e1 : (⟨(joinP (tellN x)).toArray⟩ : ByteArray).data.toList = joinP (tellN x) := rfl
 rw [e1, hx] at hm
 obtain ⟨v, d, rfl, hn⟩ := hm
 exact ⟨he, v, d, rfl, hn.imp (fun b hb _ => hb)⟩
theorem law_back (w : World) (s : ByteArray) (hL : Laid w) : Calls Tryz.prog 7 #[.string s] w fun e w' => e = .returned (.bool true) ∧ Ext w w' := by
 have HL := Lib.hid (fun W (e : Ext w W) => hL.ext e)
 by_cases hlong : 2000 < s.size
 ·have d1 : decide ((2000 : Int) < (s.size : Int)) = true := decide_eq_true (by omega)
  have d2 : decide (2000 < s.size) = true := decide_eq_true hlong
  clear hL
  go_enter Tryz.func7, Tryz.ntmps7
  go_wp2_with fail
  refine (known12_any w (HL.out _ (Ext.refl w))).mono ?_
  rintro e w1 ⟨rfl, e1⟩
  go_wp2_with fail
  go_ret
  exact ⟨rfl, e1⟩
 have d1 : decide ((2000 : Int) < (s.size : Int)) = false := decide_eq_false (by omega)
 have d2 : decide (2000 < s.size) = false := decide_eq_false hlong
 have HP := Lib.hid (parse_got w s hL (by omega))
 clear hL hlong
 go_enter Tryz.func7, Tryz.ntmps7
 go_wp2_with fail
 refine HP.out.mono ?_
 rintro e w1 ⟨e1, v, a, c, d, x, rfl, hn, hs, hbad, hok⟩
 obtain ⟨qn, cn, ql, cl, rfl, _, _⟩ := hn.parts
 generalize x.names.length = nn at *
 generalize x.kids.length = kn at *
 have HE1 := Lib.hid (e1.alloc (ndO x (.slice qn nn cn) (.slice ql kn cl)))
 have HB1 := Lib.hid (fun W => nd_box (w := w1) (W := W) (x := x) (nv := .slice qn nn cn) (lv := .slice ql kn cl))
 have HN := Lib.hid (fun W (e : Ext w1 W) => hn.ext e)
 have HSZ := Lib.hid hs
 have HX1 := Lib.hid ((Ext.refl w1).alloc (ndO x (.slice qn nn cn) (.slice ql kn cl)))
 by_cases hc : c = 0
 ·obtain ⟨hck, htl, hbk⟩ := hok hc
  subst hc
  have HCK := Lib.hid hck
  have HTL := Lib.hid htl
  have HBK := Lib.hid hbk
  clear e1 hn hs hbad hok hck htl hbk HP
  go_wp2_with fail
  generalize w1.alloc (ndO x (.slice qn nn cn) (.slice ql kn cl)) = W1 at *
  refine (sprint_any W1 (HL.out _ HE1.out) d _ x HSZ.out ((HN.out _ HX1.out).imp (fun b _ hb => Nat.lt_of_lt_of_le hb HX1.out.le)) (fun _ => HTL.out)).mono ?_
  rintro e w2 ⟨rfl, e2⟩
  have HE2 := Lib.hid (HE1.out.trans e2)
  have HX2 := Lib.hid (HX1.out.trans e2)
  have HW2 := Lib.hid e2
  have hpr : printR x = (⟨(joinP (tellN x)).toArray⟩, 0) := by unfold printR; rw [if_pos HCK.out]
  rw [hpr]
  clear e2 hpr
  go_wp2_with fail
  refine (parse_back w2 x (HL.out _ HE2.out) HBK.out).mono ?_
  rintro e w3 ⟨e3, v3, d3, rfl, hn3⟩
  obtain ⟨qn2, cn2, ql2, cl2, rfl, _, _⟩ := hn3.parts
  obtain ⟨nn2, hnn2⟩ : ∃ n, x.names.length = n := ⟨_, rfl⟩
  obtain ⟨kn2, hkn2⟩ : ∃ n, x.kids.length = n := ⟨_, rfl⟩
  rw [hnn2, hkn2] at hn3 ⊢
  have HE3 := Lib.hid (HE2.out.trans (e3.alloc (ndO x (.slice qn2 nn2 cn2) (.slice ql2 kn2 cl2))))
  have HX3 := Lib.hid (HX2.out.trans (e3.alloc (ndO x (.slice qn2 nn2 cn2) (.slice ql2 kn2 cl2))))
  have HW3 := Lib.hid (HW2.out.trans (e3.alloc (ndO x (.slice qn2 nn2 cn2) (.slice ql2 kn2 cl2))))
  have HB3 := Lib.hid (fun W => nd_box (w := w3) (W := W) (x := x) (nv := .slice qn2 nn2 cn2) (lv := .slice ql2 kn2 cl2))
  have HN3 := Lib.hid (fun W (e : Ext w3 W) => hn3.ext e)
  have HX33 := Lib.hid ((Ext.refl w3).alloc (ndO x (.slice qn2 nn2 cn2) (.slice ql2 kn2 cl2)))
  clear e3 hn3 hnn2 hkn2
  obtain ⟨a0, a1, a2, a3, a4, a5⟩ := HB1.out _ HW3.out
  obtain ⟨b0, b1, b2, b3, b4, b5⟩ := HB3.out _ (Ext.refl _)
  go_wp2_with fail
  generalize w3.alloc (ndO x (.slice qn2 nn2 cn2) (.slice ql2 kn2 cl2)) = W3 at *
  refine (check_any d W3 (HL.out _ HE3.out) _ _ x HSZ.out (HN.out _ HX3.out)).mono ?_
  rintro e w4 ⟨rfl, e4⟩
  have HE4 := Lib.hid (HE3.out.trans e4)
  have HX4 := Lib.hid (HX3.out.trans e4)
  have HW4 := Lib.hid (HW3.out.trans e4)
  have HX34 := Lib.hid (HX33.out.trans e4)
  rw [HCK.out]
  simp only [if_true]
  clear a0 a1 a2 a3 a4 a5 b0 b1 b2 b3 b4 b5
  obtain ⟨a0, a1, a2, a3, a4, a5⟩ := HB1.out _ HW4.out
  obtain ⟨b0, b1, b2, b3, b4, b5⟩ := HB3.out _ e4
  clear e4
  go_wp2_with fail
  refine (same_nd d d3 w4 _ _ _ _ x x HSZ.out HSZ.out (HN.out _ HX4.out) (HN3.out _ HX34.out)).mono ?_
  rintro e w5 ⟨rfl, e5⟩
  rw [sameN_self]
  have HE5 := Lib.hid (HE4.out.trans e5)
  clear e5 a0 a1 a2 a3 a4 a5 b0 b1 b2 b3 b4 b5
  go_wp2_with fail
  refine (known12_any w5 (HL.out _ HE5.out)).mono ?_
  rintro e w6 ⟨rfl, e6⟩
  have HE6 := Lib.hid (HE5.out.trans e6)
  clear e6
  go_wp2_with fail
  go_ret
  exact ⟨rfl, HE6.out⟩
 ·obtain rfl := hbad hc
  have c1 : (c != 0) = true := by rw [bne_iff_ne]; exact hc
  have c2 : (c == 0) = false := beq_eq_false_iff_ne.2 hc
  have HS := Lib.hid (fun W (e : Ext w1 W) => rsame_nd d 0 W _ (fun _ => True) _ _ nd0 nd0 nd0_sz nd0_sz (HN.out _ e) (nd0_at _ W))
  rw [sameN_self] at HS
  clear e1 hn hs hbad hok HP hc
  go_wp2_with fail
  refine (HS.out _ HX1.out).mono ?_
  rintro e w2 ⟨rfl, e2⟩
  have HE2 := Lib.hid (HE1.out.trans e2)
  clear e2
  go_wp2_with fail
  refine (known12_any w2 (HL.out _ HE2.out)).mono ?_
  rintro e w3 ⟨rfl, e3⟩
  have HE3 := Lib.hid (HE2.out.trans e3)
  clear e3
  go_wp2_with fail
  go_ret
  exact ⟨rfl, HE3.out⟩
end Go.Proofs.YtkbcnacjaakleaaGreatDoor
