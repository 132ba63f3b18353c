/- LibraryFinds: the walk. -/
import Derived.Test.YtfagldjhibdfhaaGreatDoorYLvF
namespace Go.Proofs.YtfagldjhibdfhaaGreatDoor
open Go.RowKit
set_option linter.unusedVariables false
set_option linter.unusedSimpArgs false

theorem asksE (w : World) (hL : LLaid w) (c : Int) (hc : in64 c) (name : ByteArray) (qa : Option Addr) (l : List Vl) (ca n : Nat) (hl : l.length = n) (ha : ValsAt w qa l) (hn : n ≤ 1000) (hx : ∀ x ∈ l, in64 x.n) (hqa : qa = none → ca = 0 ∧ l = []) :
  Calls Tryz.prog 34 #[.agg #[.int .i64 c, .slice none 0 0], .string name, .slice qa n ca] w fun e w' => e = .returned (.bool true) ∧ Ext w w' := by
 subst hl
 exact asks_any w hL c none 0 [] ⟨hc, by decide, fun T hT => (List.not_mem_nil hT).elim⟩ (fun i T hT => by simp at hT) name qa l ca ha hn hx hqa
set_option maxRecDepth 100000 in
set_option maxHeartbeats 8000000 in
theorem law_finds (w : World) (s t : ByteArray) (qi : Option Addr) (ci : Nat) (li : List Int) (hs : s.size ≤ maxLen) (ht : t.size ≤ maxLen) (hi : IntsAt w qi li) (hn : li.length ≤ maxLen) (h64 : ∀ x ∈ li, in64 x) (hL : LLaid w) :
    Calls Tryz.prog 11 #[.string s, .string t, .slice qi li.length ci] w fun e w' => e = .returned (.bool true) ∧ Ext w w' := by
  have mx : maxLen ≤ 9223372036854775807 := by decide
  have HL := Lib.hid hL
  have HI := Lib.hid hi
  have H64 := Lib.hid h64
  obtain ⟨m1, hm1⟩ : ∃ m, s.size = m := ⟨_, rfl⟩
  obtain ⟨m2, hm2⟩ : ∃ m, t.size = m := ⟨_, rfl⟩
  obtain ⟨n, hnn⟩ : ∃ m, li.length = m := ⟨_, rfl⟩
  have HNN := Lib.hid hnn
  rw [hnn] at hn ⊢
  rw [hm1] at hs
  rw [hm2] at ht
  have hI1 : (m1 : Int) ≤ 9223372036854775807 := by omega
  have hI2 : (m2 : Int) ≤ 9223372036854775807 := by omega
  have hI3 : (n : Int) ≤ 9223372036854775807 := by omega
  have V := Lib.hid (VB.nil w)
  clear hL hi h64 hnn mx hs ht hn
  go_enter Tryz.func11, Tryz.ntmps11
  by_cases hg0 : (3000 : Int) < (m1 : Int)
  · have t0 : decide ((3000 : Int) < (m1 : Int)) = true := decide_eq_true hg0
    have u0 : decide (3000 < m1) = true := decide_eq_true (by omega)
    clear hg0
    go_wp2_with fail
    refine (works_any _ (HL.out.ext V.out.ext)).mono ?_
    rintro e w99 ⟨rfl, e99⟩
    replace V := Lib.hid (V.out.ext' e99)
    clear e99
    go_wp2_with fail
    go_ret
    exact ⟨rfl, V.out.ext⟩
  have t0 : decide ((3000 : Int) < (m1 : Int)) = false := decide_eq_false hg0
  have u0 : decide (3000 < m1) = false := decide_eq_false (by omega)
  by_cases hg1 : (3000 : Int) < (m2 : Int)
  · have t1 : decide ((3000 : Int) < (m2 : Int)) = true := decide_eq_true hg1
    have u1 : decide (3000 < m2) = true := decide_eq_true (by omega)
    clear hg1
    go_wp2_with fail
    refine (works_any _ (HL.out.ext V.out.ext)).mono ?_
    rintro e w99 ⟨rfl, e99⟩
    replace V := Lib.hid (V.out.ext' e99)
    clear e99
    go_wp2_with fail
    go_ret
    exact ⟨rfl, V.out.ext⟩
  have t1 : decide ((3000 : Int) < (m2 : Int)) = false := decide_eq_false hg1
  have u1 : decide (3000 < m2) = false := decide_eq_false (by omega)
  by_cases hg2 : (300 : Int) < (n : Int)
  · have t2 : decide ((300 : Int) < (n : Int)) = true := decide_eq_true hg2
    have u2 : decide (300 < n) = true := decide_eq_true (by omega)
    clear hg2
    go_wp2_with fail
    refine (works_any _ (HL.out.ext V.out.ext)).mono ?_
    rintro e w99 ⟨rfl, e99⟩
    replace V := Lib.hid (V.out.ext' e99)
    clear e99
    go_wp2_with fail
    go_ret
    exact ⟨rfl, V.out.ext⟩
  have t2 : decide ((300 : Int) < (n : Int)) = false := decide_eq_false hg2
  have u2 : decide (300 < n) = false := decide_eq_false (by omega)
  have hn3 : n ≤ 300 := by omega
  clear hg0 hg1 hg2
  go_wp2_with fail
  clear t0 t1 t2 u0 u1 u2
  go_loopw [7, 8] (fun s7 s8 wr => ∃ j : Nat, s8 = .int .i64 (j : Int) ∧ j ≤ n ∧ Hid (Ext w wr ∧ RowB wr w.heap.size s7 ((li.take j).map iK))) (fun _ s8 _ => n - (intOf s8).toNat)
  case atStart => exact ⟨0, rfl, Nat.zero_le _, Lib.hid ⟨Ext.refl _, World.ownsRow_nil _ _ _ _⟩⟩
  case round =>
    clear V
    obtain ⟨j, rfl, hj, HW⟩ := hrel
    by_cases hlt : j < n
    · have hlt' : j < li.length := by have := HNN.out; omega
      have hd : decide ((j : Int) < (n : Int)) = true := decide_eq_true (by omega)
      have hd' : decide (j < n) = true := decide_eq_true hlt
      have hltI : (j : Int) < (n : Int) := by omega
      have hj0 : (0 : Int) ≤ (j : Int) := by omega
      have htk : li.take (j + 1) = li.take j ++ [li[j]] := List.take_succ_eq_append_getElem hlt'
      obtain ⟨x, hx⟩ : ∃ x, li[j] = x := ⟨_, rfl⟩
      rw [hx] at htk
      have HTK := Lib.hid htk
      obtain ⟨b1, o1, hq1, hb1, d1⟩ := HI.out j x (by rw [List.getElem?_eq_getElem hlt', hx])
      subst hq1
      have d1' : wr.cell? ⟨b1, o1 + j, none⟩ = some (.int .i64 x) := (HW.out.1.cells.1 _ _ hb1).trans d1
      have hb1' : b1 < wr.heap.size := Nat.lt_of_lt_of_le hb1 HW.out.1.le
      clear htk d1 hx
      obtain ⟨qo, co, eo⟩ := HW.out.2.at0.slice
      rw [List.length_map, List.length_take, Nat.min_eq_left (Nat.le_of_lt hlt')] at eo
      subst eo
      clear hlt'
      have hzr : w.heap.size ≤ wr.heap.size := HW.out.1.le
      go_wp2_with fail
      refine (int_any x _).mono ?_
      rintro e w4 ⟨rfl, e4⟩
      have HR4 := Lib.hid (own_ext HW.out.2 e4)
      have k4 := HW.out.1.trans e4
      obtain ⟨v5, w5, r5, o5', g5, l5⟩ := app_own (w4.alloc (.cells #[.int .i64 2, .int .i64 x, .string ⟨#[]⟩] 26)) 35 w.heap.size w4.heap.size _ _ (iK x) (Blk.new w4 _ _) (own_ext HR4.out ((Ext.refl w4).alloc _)) (by have := e4.le; rw [size_alloc]; omega) (by rw [List.length_map, List.length_take]; omega)
      have k5 : Ext w w5 := (k4.alloc _).grown g5 (fun z hz => (HR4.out.lt z hz).1)
      have HR5 := Lib.hid r5
      have HO5 := Lib.hid o5'
      have K5 := Lib.hid k5
      clear r5 o5' g5 l5 k4 k5 e4 HR4
      go_wp2_with (at_builtin; refine wpList_append_runs rfl _ _ 35 rfl _ _ _ _ rfl rfl HR5.out ?_)
      go_roundw
      case rel => exact ⟨j + 1, by go_num, by omega, Lib.hid ⟨K5.out, by rw [HTK.out, List.map_append]; exact HO5.out⟩⟩
      case measure => simp [intOf]; omega
    · obtain rfl : j = n := by omega
      have hd : decide ((j : Int) < (j : Int)) = false := decide_eq_false (by omega)
      have hd' : decide (j < j) = false := decide_eq_false (by omega)
      have HO := HW.out.2
      rw [List.take_of_length_le (by have := HNN.out; omega)] at HO
      obtain ⟨qo, co, eo, hva, hqn⟩ := HO.any
      rw [List.length_map, HNN.out] at eo
      subst eo
      have HVA := Lib.hid hva
      have HQN := Lib.hid hqn
      have HE0 := Lib.hid HW.out.1
      have HIK : Hid (∀ x ∈ li.map iK, in64 x.n) := Lib.hid (fun x hx => by obtain ⟨y, hy, rfl⟩ := List.mem_map.1 hx; exact H64.out y hy)
      have HLN : Hid ((li.map iK).length = j) := Lib.hid (by rw [List.length_map]; exact HNN.out)
      have hj1 : j ≤ 1000 := by omega
      have HJ1 := Lib.hid hj1
      clear hj1
      obtain ⟨wo, rfl⟩ : ∃ wo : World, wo = wr := ⟨_, rfl⟩
      replace HL := Lib.hid (HL.out.ext HE0.out)
      clear hva hqn HO HW
      have V := Lib.hid ((VB.nil wo).new wo.heap.size rfl 41 #[.int .i64 1000, .slice none 0 0])
      have hbw : Blk (wo.alloc (.cells #[.int .i64 1000, .slice none 0 0] 41)) wo.heap.size 41 #[.int .i64 1000, .slice none 0 0] := Blk.new _ _ _
      have a0 := hbw.cell 0
      have a1 := hbw.cell 1
      simp only [List.getElem?_toArray, List.getElem?_cons_zero, List.getElem?_cons_succ] at a0 a1
      go_wp2_with fail
      go_region_held3 (fun w' => w'.cell? ⟨wo.heap.size, 0, none⟩ = some (.int .i64 1000) ∧ w'.cell? ⟨wo.heap.size, 1, none⟩ = some (.slice none 0 0)) (go_keep)
        (first
          | (go_at_call 16; with_reducible refine Calls.mono (text_any _ _) ?_; rintro e w1 ⟨rfl, e1⟩; replace V := Lib.hid (V.out.ext' (by first | (with_reducible exact e1) | (with_reducible exact (Ext.refl _).drew.trans e1))); clear e1; have hbw := (V.out.row (wo.heap.size, 41, #[.int .i64 1000, .slice none 0 0]) (List.mem_cons_self ..)); have y0 := hbw.cell 0; have y1 := hbw.cell 1; simp only [List.getElem?_toArray, List.getElem?_cons_zero, List.getElem?_cons_succ] at y0 y1; clear hbw)
          | (go_at_call 34; (first
              | (with_reducible refine Calls.mono (asks0 _ (HL.out.ext (V.out.ext.alloc _)) 1000 in64_1000 ⟨#[102, 105, 110, 100]⟩ _ 2 _ [⟨3, 0, s⟩, ⟨3, 0, t⟩] (Blk.new _ _ _) rfl rfl (by decide) (n2 in64_0 in64_0)) ?_; rintro e w2 ⟨rfl, e2⟩; replace V := Lib.hid (V.out.ext' (((Ext.refl _).alloc _).trans e2)))
              | (with_reducible refine Calls.mono (asksE _ (HL.out.ext V.out.ext) 1000 in64_1000 ⟨#[99, 104, 97, 114]⟩ qo (li.map iK) co _ HLN.out (HVA.out.ext V.out.ext) HJ1.out HIK.out HQN.out) ?_; rintro e w2 ⟨rfl, e2⟩; replace V := Lib.hid (V.out.ext' e2))); clear e2; have hbw := (V.out.row (wo.heap.size, 41, #[.int .i64 1000, .slice none 0 0]) (List.mem_cons_self ..)); have y0 := hbw.cell 0; have y1 := hbw.cell 1; simp only [List.getElem?_toArray, List.getElem?_cons_zero, List.getElem?_cons_succ] at y0 y1; clear hbw)
          | (go_at_call 20; with_reducible refine Calls.mono (works_any _ (HL.out.ext V.out.ext)) ?_; rintro e w3 ⟨rfl, e3⟩; replace V := Lib.hid (V.out.ext' e3); clear e3; have hbw := (V.out.row (wo.heap.size, 41, #[.int .i64 1000, .slice none 0 0]) (List.mem_cons_self ..)); have y0 := hbw.cell 0; have y1 := hbw.cell 1; simp only [List.getElem?_toArray, List.getElem?_cons_zero, List.getElem?_cons_succ] at y0 y1; clear hbw))
      all_goals go_wp2_with fail
      all_goals (
        go_ret
        exact ⟨rfl, HE0.out.trans V.out.ext⟩)
end Go.Proofs.YtfagldjhibdfhaaGreatDoor
