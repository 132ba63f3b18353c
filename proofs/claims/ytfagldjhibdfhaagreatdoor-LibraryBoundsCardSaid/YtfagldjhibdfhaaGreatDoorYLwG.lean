/- LibraryTexts: the walk. -/
import Derived.Test.YtfagldjhibdfhaaGreatDoorYLwF
import Derived.BigQuiet
namespace Go.Proofs.YtfagldjhibdfhaaGreatDoor
open Go.RowKit
set_option linter.unusedVariables false
set_option linter.unusedSimpArgs false

theorem nh_ok {w0 w : World} {g k f : Nat} {H H' : Hp} {L : List (Nat × List Vl)} {l : List Vl} {vk vn : Int} {vs : ByteArray} (h : NH w0 w g H L) (hm : (k, l) ∈ L) (hL : LLaid w0) (hlen : H.tabs.length ≤ 1000000000) (hl : l.length ≤ 1048576) (name : ByteArray) (hi : libIdx name = some f) (hr : callR H name l = some ⟨⟨vk, vn, vs⟩, eN, H'⟩) (hs : ∀ x ∈ l, Sound x) (cap : Nat) :
    Calls Tryz.prog 15 #[.pointer (some ⟨g, 0, none⟩), .string name, .slice (some ⟨k, 0, none⟩) l.length cap] w fun e w' =>
      e = .returned (.tuple #[vv vk vn vs, .string eN, .bool true]) ∧ NH w0 w' g H' L := nh_callR ⟨⟨vk, vn, vs⟩, eN, H'⟩ h hm hL hlen hl name hi hr hs cap
theorem nh_no {w0 w : World} {g k f : Nat} {H H' : Hp} {L : List (Nat × List Vl)} {l : List Vl} {o : ByteArray} (ho : ¬ o = sNone) (h : NH w0 w g H L) (hm : (k, l) ∈ L) (hL : LLaid w0) (hlen : H.tabs.length ≤ 1000000000) (hl : l.length ≤ 1048576) (name : ByteArray) (hi : libIdx name = some f) (hr : callR H name l = some (.no H' o)) (hs : ∀ x ∈ l, Sound x) (cap : Nat) :
    Calls Tryz.prog 15 #[.pointer (some ⟨g, 0, none⟩), .string name, .slice (some ⟨k, 0, none⟩) l.length cap] w fun e w' =>
      e = .returned (.tuple #[vv 0 0 eN, .string o, .bool true]) ∧ NH w0 w' g H' L := by
  have := nh_callR (.no H' o) h hm hL hlen hl name hi hr hs cap
  rw [show (if (Rs.no H' o).w = sNone then (Rs.no H' o).v else Vl.zero) = Vl.zero from by split <;> rfl] at this
  exact this
theorem all1 {a : Vl} (ha : Sound a) : ∀ x ∈ [a], Sound x := fun x hx => by
  rcases List.mem_cons.1 hx with rfl | hx
  · exact ha
  · exact (List.not_mem_nil hx).elim
theorem all2 {a b : Vl} (ha : Sound a) (hb : Sound b) : ∀ x ∈ [a, b], Sound x := fun x hx => by
  rcases List.mem_cons.1 hx with rfl | hx
  · exact ha
  · exact all1 hb x hx
theorem all3 {a b c : Vl} (ha : Sound a) (hb : Sound b) (hc : Sound c) : ∀ x ∈ [a, b, c], Sound x := fun x hx => by
  rcases List.mem_cons.1 hx with rfl | hx
  · exact ha
  · exact all2 hb hc x hx
set_option maxRecDepth 100000 in
set_option maxHeartbeats 4000000 in
theorem texts_big (w : World) (s : ByteArray) (p n : Int) (hs : s.size ≤ 9223372036854775807) (hL : LLaid w) (hg : ¬ (s.size ≤ 3000 ∧ 0 ≤ p ∧ p ≤ s.size)) :
    Calls Tryz.prog 6 #[.string s, .int .i64 p, .int .i64 n] w fun e w' => e = .returned (.bool true) ∧ Ext w w' := by
  have HL := Lib.hid hL
  clear hL
  obtain ⟨m, hm⟩ : ∃ m, s.size = m := ⟨_, rfl⟩
  rw [hm] at hg hs
  have t1 : decide ((3000 : Int) < (m : Int)) = true ∨ (decide ((3000 : Int) < (m : Int)) = false ∧ decide (p < 0) = true) ∨ (decide ((3000 : Int) < (m : Int)) = false ∧ decide (p < 0) = false ∧ decide ((m : Int) < p) = true) := by
    simp only [decide_eq_true_eq, decide_eq_false_iff_not]
    omega
  clear hg
  go_enter Tryz.func6, Tryz.ntmps6
  rcases t1 with t1 | ⟨t1, t2⟩ | ⟨t1, t2, t3⟩
  all_goals (
    have t1' := t1
    simp only [decide_eq_true_eq, decide_eq_false_iff_not] at t1'
    have t4 : decide (3000 < m) = decide ((3000 : Int) < (m : Int)) := by rw [decide_eq_decide]; omega
    rw [t1] at t4
    clear t1'
    go_wp2_with fail
    refine (works_any _ HL.out).mono ?_
    rintro e w5 ⟨rfl, e5⟩
    have E5 := Lib.hid e5
    clear e5
    go_wp2_with fail
    go_ret
    exact ⟨rfl, E5.out⟩)
set_option maxRecDepth 100000 in
set_option maxHeartbeats 8000000 in
theorem texts_small (w : World) (s : ByteArray) (p : Nat) (n : Int) (hs : s.size ≤ 3000) (hp : p ≤ s.size) (hn : in64 n) (hL : LLaid w) :
    Calls Tryz.prog 6 #[.string s, .int .i64 (p : Int), .int .i64 n] w fun e w' => e = .returned (.bool true) ∧ Ext w w' := by
  have HL := Lib.hid hL
  have hT0 : (newH 1000000).tabs.length ≤ 1000000000 := by decide
  have hl : s.data.toList.length = s.size := rfl
  obtain ⟨A, hA⟩ : ∃ A, ba (s.data.toList.take p) = A := ⟨_, rfl⟩
  obtain ⟨B, hB⟩ : ∃ B, ba (s.data.toList.drop p) = B := ⟨_, rfl⟩
  obtain ⟨D, hD⟩ : ∃ D, ba (Lib.itoa n) = D := ⟨_, rfl⟩
  have hAz : A.size ≤ 3000 := by rw [← hA, ba_size, List.length_take]; omega
  have hBz : B.size ≤ 3000 := by rw [← hB, ba_size, List.length_drop]; omega
  have hDz : D.size ≤ 3000 := by rw [← hD, ba_size]; have := Lib.itoa_length_le n hn.1 hn.2; omega
  have nA := mkN_nat A
  have nB := mkN_nat B
  have nD := mkN_nat D
  obtain ⟨H1, hH1⟩ : ∃ H1 : Hp, H1 = ⟨[], 1000000, 0 + mkN A⟩ := ⟨_, rfl⟩
  obtain ⟨H2, hH2⟩ : ∃ H2 : Hp, H2 = ⟨[], 1000000, 0 + mkN A + mkN B⟩ := ⟨_, rfl⟩
  obtain ⟨H3, hH3⟩ : ∃ H3 : Hp, H3 = ⟨[], 1000000, 0 + mkN A + mkN B + mkN D⟩ := ⟨_, rfl⟩
  have r1 : callR (newH 1000000) wSub [⟨3, 0, s⟩, ⟨2, 1, eN⟩, ⟨2, (p : Int), eN⟩] = some ⟨⟨3, 0, A⟩, eN, H1⟩ := by
    have e1 : subL s.data.toList 1 p = s.data.toList.take p := subL_head _ _ (by omega)
    have := call_sub3 (H := newH 1000000) (s := s) (by omega) 1 p (by rw [e1, hA]; show (0 : Int) + mkN A ≤ 1000000; omega)
    rw [e1, hA] at this
    rw [this, hH1]
    rfl
  have r2 : callR H1 wSub [⟨3, 0, s⟩, ⟨2, (p : Int) + 1, eN⟩] = some ⟨⟨3, 0, B⟩, eN, H2⟩ := by
    have e1 : subL s.data.toList ((p : Int) + 1) (-1) = s.data.toList.drop p := subL_tail _ _ (by omega)
    have := call_sub2 (H := H1) (s := s) (by omega) ((p : Int) + 1) (by rw [e1, hB, hH1]; show (0 : Int) + mkN A + mkN B ≤ 1000000; omega)
    rw [e1, hB] at this
    rw [this, hH1, hH2]
  obtain ⟨i, hi1, hi2⟩ := find_drop s p hp
  rw [hB] at hi2
  have r3 : callR H2 wFind [⟨3, 0, s⟩, ⟨3, 0, B⟩] = some ⟨⟨2, (i : Int) + 1, eN⟩, eN, H2⟩ := by rw [call_find (by omega) (by omega), hi2]
  have r4 : callR H2 wTostring [⟨2, n, eN⟩] = some ⟨⟨3, 0, D⟩, eN, H3⟩ := by
    have := call_tostring (H := H2) n hn (by rw [hD, hH2]; show (0 : Int) + mkN A + mkN B + mkN D ≤ 1000000; omega)
    rw [hD] at this
    rw [this, hH2, hH3]
  have r5 : callR H3 wTonumber [⟨3, 0, D⟩] = some ⟨⟨2, n, eN⟩, eN, H3⟩ := by rw [← hD]; exact call_tonumber n hn
  have hAB : A ++ B = s := by
    rw [← hA, ← hB]
    apply ByteArray.ext
    apply Array.toList_inj.1
    rw [ByteArray.data_append, Array.toList_append]
    show (ba _).data.toList ++ (ba _).data.toList = _
    rw [ba_list, ba_list, List.take_append_drop]
  have hss : (s.toList == s.toList) = true := by simp
  have sS : Sound ⟨3, 0, s⟩ := sound_text s (by omega)
  have sB : Sound ⟨3, 0, B⟩ := sound_text B (by omega)
  have sD : Sound ⟨3, 0, D⟩ := sound_text D (by omega)
  have l1 : H1.tabs.length ≤ 1000000000 := by rw [hH1]; exact Nat.zero_le _
  have l2 : H2.tabs.length ≤ 1000000000 := by rw [hH2]; exact Nat.zero_le _
  have l3 : H3.tabs.length ≤ 1000000000 := by rw [hH3]; exact Nat.zero_le _
  have K1 : Hid (∀ {W : World} {g k : Nat} {L : List (Nat × List Vl)}, NH w W g (newH 1000000) L → (k, [⟨3, 0, s⟩, ⟨2, 1, ⟨#[]⟩⟩, ⟨2, (p : Int), ⟨#[]⟩⟩]) ∈ L → ∀ cap : Nat, Calls Tryz.prog 15 #[.pointer (some ⟨g, 0, none⟩), .string wSub, .slice (some ⟨k, 0, none⟩) 3 cap] W fun e w' =>
      e = .returned (.tuple #[vv 3 0 A, .string eN, .bool true]) ∧ NH w w' g H1 L) := Lib.hid (fun h hm cap => nh_ok (f := 9) h hm HL.out (by first | exact hT0 | exact l1 | exact l2 | exact l3) (by simp) wSub (by kernel_rfl) r1 (by exact all3 sS (sound_int 1 ⟨by decide, by decide⟩) (sound_int p ⟨by omega, by omega⟩)) cap)
  have K2 : Hid (∀ {W : World} {g k : Nat} {L : List (Nat × List Vl)}, NH w W g H1 L → (k, [⟨3, 0, s⟩, ⟨2, (p : Int) + 1, ⟨#[]⟩⟩]) ∈ L → ∀ cap : Nat, Calls Tryz.prog 15 #[.pointer (some ⟨g, 0, none⟩), .string wSub, .slice (some ⟨k, 0, none⟩) 2 cap] W fun e w' =>
      e = .returned (.tuple #[vv 3 0 B, .string eN, .bool true]) ∧ NH w w' g H2 L) := Lib.hid (fun h hm cap => nh_ok (f := 9) h hm HL.out (by first | exact hT0 | exact l1 | exact l2 | exact l3) (by simp) wSub (by kernel_rfl) r2 (by exact all2 sS (sound_int _ ⟨by omega, by omega⟩)) cap)
  have K3 : Hid (∀ {W : World} {g k : Nat} {L : List (Nat × List Vl)}, NH w W g H2 L → (k, [⟨3, 0, s⟩, ⟨3, 0, B⟩]) ∈ L → ∀ cap : Nat, Calls Tryz.prog 15 #[.pointer (some ⟨g, 0, none⟩), .string wFind, .slice (some ⟨k, 0, none⟩) 2 cap] W fun e w' =>
      e = .returned (.tuple #[vv 2 ((i : Int) + 1) eN, .string eN, .bool true]) ∧ NH w w' g H2 L) := Lib.hid (fun h hm cap => nh_ok (f := 3) h hm HL.out (by first | exact hT0 | exact l1 | exact l2 | exact l3) (by simp) wFind (by kernel_rfl) r3 (by exact all2 sS sB) cap)
  have K4 : Hid (∀ {W : World} {g k : Nat} {L : List (Nat × List Vl)}, NH w W g H2 L → (k, [⟨2, n, ⟨#[]⟩⟩]) ∈ L → ∀ cap : Nat, Calls Tryz.prog 15 #[.pointer (some ⟨g, 0, none⟩), .string wTostring, .slice (some ⟨k, 0, none⟩) 1 cap] W fun e w' =>
      e = .returned (.tuple #[vv 3 0 D, .string eN, .bool true]) ∧ NH w w' g H3 L) := Lib.hid (fun h hm cap => nh_ok (f := 11) h hm HL.out (by first | exact hT0 | exact l1 | exact l2 | exact l3) (by simp) wTostring (by kernel_rfl) r4 (by exact all1 (sound_int n hn)) cap)
  have K5 : Hid (∀ {W : World} {g k : Nat} {L : List (Nat × List Vl)}, NH w W g H3 L → (k, [⟨3, 0, D⟩]) ∈ L → ∀ cap : Nat, Calls Tryz.prog 15 #[.pointer (some ⟨g, 0, none⟩), .string wTonumber, .slice (some ⟨k, 0, none⟩) 1 cap] W fun e w' =>
      e = .returned (.tuple #[vv 2 n eN, .string eN, .bool true]) ∧ NH w w' g H3 L) := Lib.hid (fun h hm cap => nh_ok (f := 10) h hm HL.out (by first | exact hT0 | exact l1 | exact l2 | exact l3) (by simp) wTonumber (by kernel_rfl) r5 (by exact all1 sD) cap)
  obtain ⟨m, hm⟩ : ∃ m, s.size = m := ⟨_, rfl⟩
  rw [hm] at hs hp
  have q1 : decide ((3000 : Int) < (m : Int)) = false := decide_eq_false (by omega)
  have q2 : decide (3000 < m) = false := decide_eq_false (by omega)
  have q3 : decide ((p : Int) < 0) = false := decide_eq_false (by omega)
  have q4 : decide ((m : Int) < (p : Int)) = false := decide_eq_false (by omega)
  have q5 : decide (m < p) = false := decide_eq_false (by omega)
  have q6 : decide ((1 : Int) ≤ (i : Int) + 1) = true := decide_eq_true (by omega)
  have q7 : decide ((i : Int) + 1 ≤ (p : Int) + 1) = true := decide_eq_true (by omega)
  have q8 : decide ((i : Int) ≤ (p : Int)) = true := decide_eq_true (by omega)
  have q9 : decide ((i ≤ p)) = true := decide_eq_true (by omega)
  have qw : IntKind.i64.wrap ((p : Int) + 1) = (p : Int) + 1 := IntWalk.i64_in _ (by omega)
  have qb1 : (p : Int) + 1 ≤ 9223372036854775807 := by omega
  have qb0 : (0 : Int) ≤ (p : Int) := by omega
  have qi0 : (0 : Int) ≤ (i : Int) := by omega
  have hv := fun a b x y W => vl_guard .eql (.inl rfl) a b x y W
  have hv1 : ∀ W, (binOp .eql 26 (vv 2 n ⟨#[]⟩) (vv 2 n ⟨#[]⟩)).run Tryz.prog W = .ok (.bool true) W := fun W => by have := vl_eql ⟨2, n, ⟨#[]⟩⟩ ⟨2, n, ⟨#[]⟩⟩ W; simpa using this
  have HFIN := Lib.hid (And.intro hAB (And.intro hss (show A.size + B.size ≤ 6000 by omega)))
  clear hL hA hB hD hAz hBz hDz nA nB nD hH1 hH2 hH3 r1 r2 r3 r4 r5 hi1 hi2 hAB hss sS sB sD l1 l2 l3 hl hT0 hs hp hn
  go_enter Tryz.func6, Tryz.ntmps6
  go_wp2_with fail
  refine (nh_new 1000000 (Ext.refl w) (by decide) (by decide)).mono ?_
  rintro e w1 ⟨g, rfl, n1⟩
  have N : Hid (NH w w1 g (newH 1000000) []) := Lib.hid n1
  clear n1
  go_wp2_with fail
  refine (text_any _ _).mono ?_
  rintro e w2 ⟨rfl, e2⟩
  replace N := Lib.hid (N.out.ext' e2)
  clear e2
  go_wp2_with fail
  refine (int_any _ _).mono ?_
  rintro e w3 ⟨rfl, e3⟩
  replace N := Lib.hid (N.out.ext' e3)
  clear e3
  go_wp2_with fail
  refine (int_any _ _).mono ?_
  rintro e w4 ⟨rfl, e4⟩
  replace N := Lib.hid (N.out.ext' e4)
  clear e4
  go_wp2_with fail
  refine (K1.out (N.out.new (l := [⟨3, 0, s⟩, ⟨2, 1, ⟨#[]⟩⟩, ⟨2, (p : Int), ⟨#[]⟩⟩]) _ rfl) (List.mem_cons_self ..) _).mono ?_
  rintro e w5 ⟨rfl, n5⟩
  replace N := Lib.hid (n5.sub (List.sublist_cons_self _ _))
  clear n5
  go_wp2_with fail
  replace N := Lib.hid (N.out.new (l := [⟨3, 0, A⟩]) #[.int .i64 3, .int .i64 0, .string A] rfl)
  obtain ⟨k8, hk8⟩ : ∃ k, w5.heap.size = k := ⟨_, rfl⟩
  rw [hk8] at N ⊢
  refine (text_any _ _).mono ?_
  rintro e w6 ⟨rfl, e6⟩
  replace N := Lib.hid (N.out.ext' e6)
  clear e6
  go_wp2_with fail
  refine (int_any _ _).mono ?_
  rintro e w7 ⟨rfl, e7⟩
  replace N := Lib.hid (N.out.ext' e7)
  clear e7
  go_wp2_with fail
  refine (K2.out (N.out.new (l := [⟨3, 0, s⟩, ⟨2, (p : Int) + 1, ⟨#[]⟩⟩]) _ rfl) (List.mem_cons_self ..) _).mono ?_
  rintro e w8 ⟨rfl, n8⟩
  replace N := Lib.hid (n8.sub (List.sublist_cons_self _ _))
  clear n8
  go_wp2_with fail
  replace N := Lib.hid (N.out.new (l := [⟨3, 0, B⟩]) #[.int .i64 3, .int .i64 0, .string B] rfl)
  obtain ⟨k11, hk11⟩ : ∃ k, w8.heap.size = k := ⟨_, rfl⟩
  rw [hk11] at N ⊢
  generalize w8.alloc (.cells #[.int .i64 3, .int .i64 0, .string B] 26) = wa at N ⊢
  go_upto_region 6 with (fail)
  go_cut [14, 15, 16] (fun s14 s15 s16 wx => ∃ k14, s14 = .pointer (some ⟨k14, 0, none⟩) ∧ s15 = .string eN ∧ s16 = .bool true ∧ Hid (NH w wx g H2 ((k14, [⟨2, (i : Int) + 1, ⟨#[]⟩⟩]) :: [(k11, [⟨3, 0, B⟩]), (k8, [⟨3, 0, A⟩])])))
  case first =>
    obtain ⟨ck110, ck111, ck112, _⟩ := N.out.three (k := k11) (x := ⟨3, 0, B⟩) (by simp)
    have hbk11 : k11 < wa.heap.size := N.out.lt (p := (k11, [⟨3, 0, B⟩])) (by simp)
    have hnek11 : ¬ wa.heap.size = k11 := by omega
    have hnfk11 : ¬ k11 = wa.heap.size := by omega
    go_region_held3 (fun w' => w'.cell? ⟨k11, 0, none⟩ = some (.int .i64 3) ∧ w'.cell? ⟨k11, 1, none⟩ = some (.int .i64 0) ∧ w'.cell? ⟨k11, 2, none⟩ = some (.string B)) (go_keep)
      (first
        | (go_at_call 16; refine (text_any _ _).mono ?_; rintro e w23 ⟨rfl, eq⟩; (try (have hq : Ext (World.drew wa) w23 := (by with_reducible exact eq); have Aw23 := Lib.hid (N.out.ext' ((Ext.refl wa).drew.trans hq)); have EEw23 := Lib.hid ((Ext.refl wa).drew.trans hq); clear hq)); (try (have hq : Ext (World.alloc (World.drew wa) (.cells #[.int .i64 0, .int .i64 0, .string ⟨#[]⟩] 26)) w23 := (by with_reducible exact eq); have Bw23 := Lib.hid (((N.out.ext' (Ext.refl wa).drew).new (l := [Vl.zero]) #[.int .i64 0, .int .i64 0, .string ⟨#[]⟩] rfl).ext' hq); have EEw23 := Lib.hid (((Ext.refl wa).drew.alloc (.cells #[.int .i64 0, .int .i64 0, .string ⟨#[]⟩] 26)).trans hq); clear hq)); (try (have hq : Ext (World.drew (World.alloc wa (.cells #[.int .i64 0, .int .i64 0, .string ⟨#[]⟩] 26))) w23 := (by with_reducible exact eq); have Bw23 := Lib.hid ((((N.out.new (l := [Vl.zero]) #[.int .i64 0, .int .i64 0, .string ⟨#[]⟩] rfl).ext' (Ext.refl _).drew)).ext' hq); have EEw23 := Lib.hid (((Ext.refl wa).alloc (.cells #[.int .i64 0, .int .i64 0, .string ⟨#[]⟩] 26)).drew.trans hq); clear hq)); have xk110 := (EEw23.out.cells.1 _ _ hbk11).trans ck110; have xk111 := (EEw23.out.cells.1 _ _ hbk11).trans ck111; have xk112 := (EEw23.out.cells.1 _ _ hbk11).trans ck112; have Lw23k11 : k11 < w23.heap.size := Nat.lt_of_lt_of_le hbk11 EEw23.out.le; have nnw23k11 : ¬ w23.heap.size = k11 := Nat.ne_of_gt Lw23k11; have nmw23k11 : ¬ k11 = w23.heap.size := Nat.ne_of_lt Lw23k11; have nkw23k11 : ¬ w23.heap.size + 1 = k11 := (by omega); have nlw23k11 : ¬ k11 = w23.heap.size + 1 := (by omega); clear eq)
        | (go_at_call 15; first
            | (have hz : Hid (NH w w23 g H2 ((wa.heap.size, [Vl.zero]) :: [(k11, [⟨3, 0, B⟩]), (k8, [⟨3, 0, A⟩])])) := (by with_reducible assumption); have CC := K3.out (hz.out.new (l := [⟨3, 0, s⟩, ⟨3, 0, B⟩]) #[.int .i64 3, .int .i64 0, .string s, .int .i64 3, .int .i64 0, .string B] rfl) (List.mem_cons_self ..) 2; (try simp only [size_alloc] at CC); (with_reducible refine Calls.mono CC ?_); clear CC; rintro e w9 ⟨rfl, n9⟩; obtain ⟨yyk110, yyk111, yyk112, _⟩ := n9.three (k := k11) (x := ⟨3, 0, B⟩) (by simp); have L9k11 : k11 < w9.heap.size := n9.lt (p := (k11, [⟨3, 0, B⟩])) (by simp); have nn9k11 : ¬ w9.heap.size = k11 := Nat.ne_of_gt L9k11; have nm9k11 : ¬ k11 = w9.heap.size := Nat.ne_of_lt L9k11; have F9 := Lib.hid (n9.sub (List.sublist_cons_self _ _)); obtain ⟨zl, zv0, zv1, zv2, zf0, zf1, zf2⟩ := ZV.facts (show ZV w9 _ from (F9.out.own _ (List.mem_cons_self ..)).2); clear n9)
            | (have hz : Hid (NH w w23 g H2 [(k11, [⟨3, 0, B⟩]), (k8, [⟨3, 0, A⟩])]) := (by with_reducible assumption); have CC := K3.out (hz.out.new (l := [⟨3, 0, s⟩, ⟨3, 0, B⟩]) #[.int .i64 3, .int .i64 0, .string s, .int .i64 3, .int .i64 0, .string B] rfl) (List.mem_cons_self ..) 2; (try simp only [size_alloc] at CC); (with_reducible refine Calls.mono CC ?_); clear CC; rintro e w9 ⟨rfl, n9⟩; obtain ⟨yyk110, yyk111, yyk112, _⟩ := n9.three (k := k11) (x := ⟨3, 0, B⟩) (by simp); have L9k11 : k11 < w9.heap.size := n9.lt (p := (k11, [⟨3, 0, B⟩])) (by simp); have nn9k11 : ¬ w9.heap.size = k11 := Nat.ne_of_gt L9k11; have nm9k11 : ¬ k11 = w9.heap.size := Nat.ne_of_lt L9k11; have G9 := Lib.hid (n9.sub (List.sublist_cons_self _ _)); clear n9)
            | (have hz : Hid (NH w w23 g H2 [(k11, [⟨3, 0, B⟩]), (k8, [⟨3, 0, A⟩])]) := (by with_reducible assumption); have CC := K3.out ((hz.out.new (l := [Vl.zero]) #[.int .i64 0, .int .i64 0, .string ⟨#[]⟩] rfl).new (l := [⟨3, 0, s⟩, ⟨3, 0, B⟩]) #[.int .i64 3, .int .i64 0, .string s, .int .i64 3, .int .i64 0, .string B] rfl) (List.mem_cons_self ..) 2; (try simp only [size_alloc] at CC); (with_reducible refine Calls.mono CC ?_); clear CC; rintro e w9 ⟨rfl, n9⟩; obtain ⟨yyk110, yyk111, yyk112, _⟩ := n9.three (k := k11) (x := ⟨3, 0, B⟩) (by simp); have L9k11 : k11 < w9.heap.size := n9.lt (p := (k11, [⟨3, 0, B⟩])) (by simp); have nn9k11 : ¬ w9.heap.size = k11 := Nat.ne_of_gt L9k11; have nm9k11 : ¬ k11 = w9.heap.size := Nat.ne_of_lt L9k11; have F9 := Lib.hid (n9.sub (List.sublist_cons_self _ _)); obtain ⟨zl, zv0, zv1, zv2, zf0, zf1, zf2⟩ := ZV.facts (show ZV w9 _ from (F9.out.own _ (List.mem_cons_self ..)).2); clear n9)
            | (have hz : Hid (NH w w23 g H2 [(k11, [⟨3, 0, B⟩]), (k8, [⟨3, 0, A⟩])]) := (by with_reducible assumption); have CC := K3.out ((hz.out.new (l := [⟨3, 0, s⟩, ⟨3, 0, B⟩]) #[.int .i64 3, .int .i64 0, .string s, .int .i64 3, .int .i64 0, .string B] rfl).new (l := [Vl.zero]) #[.int .i64 0, .int .i64 0, .string ⟨#[]⟩] rfl) (List.mem_cons_of_mem _ (List.mem_cons_self ..)) 2; (try simp only [size_alloc] at CC); (with_reducible refine Calls.mono CC ?_); clear CC; rintro e w9 ⟨rfl, n9⟩; obtain ⟨yyk110, yyk111, yyk112, _⟩ := n9.three (k := k11) (x := ⟨3, 0, B⟩) (by simp); have L9k11 : k11 < w9.heap.size := n9.lt (p := (k11, [⟨3, 0, B⟩])) (by simp); have nn9k11 : ¬ w9.heap.size = k11 := Nat.ne_of_gt L9k11; have nm9k11 : ¬ k11 = w9.heap.size := Nat.ne_of_lt L9k11; have F9 := Lib.hid (n9.sub (List.Sublist.cons_cons _ (List.sublist_cons_self _ _))); obtain ⟨zl, zv0, zv1, zv2, zf0, zf1, zf2⟩ := ZV.facts (show ZV w9 _ from (F9.out.own _ (List.mem_cons_self ..)).2); clear n9)))
    all_goals go_wp2_with fail
    all_goals (
      go_meet
      first
        | exact ⟨_, rfl, rfl, rfl, Lib.hid (G9.out.new (l := [⟨2, (i : Int) + 1, ⟨#[]⟩⟩]) _ rfl)⟩
        | exact ⟨_, rfl, rfl, rfl, Lib.hid (F9.out.put (y := ⟨2, (i : Int) + 1, ⟨#[]⟩⟩))⟩)
  case rest =>
  obtain ⟨k14, rfl, rfl, rfl, HM⟩ := hcut
  obtain ⟨wz, rfl⟩ : ∃ wz : World, wz = wc := ⟨_, rfl⟩
  replace N := HM
  clear HM
  go_wp2_with fail
  refine (int_any _ _).mono ?_
  rintro e w31 ⟨rfl, e31⟩
  replace N := Lib.hid (N.out.ext' e31)
  clear e31
  go_wp2_with fail
  refine (K4.out (N.out.new (l := [⟨2, n, ⟨#[]⟩⟩]) _ rfl) (List.mem_cons_self ..) _).mono ?_
  rintro e w32 ⟨rfl, n32⟩
  replace N := Lib.hid (n32.sub (List.sublist_cons_self _ _))
  clear n32
  go_wp2_with fail
  replace N := Lib.hid (N.out.new (l := [⟨3, 0, D⟩]) #[.int .i64 3, .int .i64 0, .string D] rfl)
  obtain ⟨k17, hk17⟩ : ∃ k, w32.heap.size = k := ⟨_, rfl⟩
  rw [hk17] at N ⊢
  have N5 := N.out.new (l := [⟨3, 0, D⟩]) #[.int .i64 3, .int .i64 0, .string D] rfl
  rw [size_alloc, hk17] at N5
  refine (K5.out N5 (List.mem_cons_self ..) _).mono ?_
  clear N5
  rintro e w40 ⟨rfl, n40⟩
  replace N := Lib.hid (n40.sub (List.sublist_cons_self _ _))
  clear n40
  go_wp2_with fail
  replace N := Lib.hid (N.out.new (l := [⟨2, n, ⟨#[]⟩⟩]) #[.int .i64 2, .int .i64 n, .string ⟨#[]⟩] rfl)
  obtain ⟨k20, hk20⟩ : ∃ k, w40.heap.size = k := ⟨_, rfl⟩
  rw [hk20] at N ⊢
  obtain ⟨hAB, hss, hz⟩ := HFIN.out
  have hz1 : ¬ 9223372036854775807 < A.size + B.size := by omega
  clear hz
  obtain ⟨dk80, dk81, dk82, _⟩ := N.out.three (k := k8) (x := ⟨3, 0, A⟩) (by simp)
  obtain ⟨dk110, dk111, dk112, _⟩ := N.out.three (k := k11) (x := ⟨3, 0, B⟩) (by simp)
  obtain ⟨dk140, dk141, dk142, _⟩ := N.out.three (k := k14) (x := ⟨2, (i : Int) + 1, ⟨#[]⟩⟩) (by simp)
  obtain ⟨dk200, dk201, dk202, _⟩ := N.out.three (k := k20) (x := ⟨2, n, ⟨#[]⟩⟩) (by simp)
  go_wp2_with fail
  refine wp_region_ext (by kernel_rfl) (by kernel_rfl) ?_
  repeat (
    first
      | go_big_quiet_skip
      | (go_big_quiet_want
         go_big_quiet_op
         first
           | go_big_quiet_on
           | (apply Exists.intro
              refine ⟨fun wq hq => ?_, ?_⟩
              focus (
                have dk80 := cell_of_ext dk80 hq
                have dk81 := cell_of_ext dk81 hq
                have dk82 := cell_of_ext dk82 hq
                have dk110 := cell_of_ext dk110 hq
                have dk111 := cell_of_ext dk111 hq
                have dk112 := cell_of_ext dk112 hq
                have dk140 := cell_of_ext dk140 hq
                have dk141 := cell_of_ext dk141 hq
                have dk142 := cell_of_ext dk142 hq
                have dk200 := cell_of_ext dk200 hq
                have dk201 := cell_of_ext dk201 hq
                have dk202 := cell_of_ext dk202 hq
                first
                  | (go_at_call 17; exact Calls.ext_of hq (int_any _ _); done)
                  | (go_at_call 20; exact Calls.ext_of hq (works_any _ (HL.out.ext (N.out.ext.trans hq))); done)
                  | (go_simp; exact rfl))
              go_big_quiet_on)))
  refine wpQuiet_nil ?_
  intro we hwe
  clear dk80 dk81 dk82 dk110 dk111 dk112 dk140 dk141 dk142 dk200 dk201 dk202
  go_wp2_with fail
  go_ret
  exact ⟨rfl, N.out.ext.trans hwe⟩
theorem law_texts (w : World) (s : ByteArray) (p n : Int) (hs : s.size ≤ maxLen) (hn : in64 n) (hL : LLaid w) :
    Calls Tryz.prog 6 #[.string s, .int .i64 p, .int .i64 n] w fun e w' => e = .returned (.bool true) ∧ Ext w w' := by
  have hm : maxLen ≤ 9223372036854775807 := by decide
  by_cases hg : s.size ≤ 3000 ∧ 0 ≤ p ∧ p ≤ s.size
  · obtain ⟨p', rfl⟩ : ∃ p' : Nat, p = p' := ⟨p.toNat, by omega⟩
    exact texts_small w s p' n hg.1 (by omega) hn hL
  · exact texts_big w s p n (by omega) hL hg
end Go.Proofs.YtfagldjhibdfhaaGreatDoor
