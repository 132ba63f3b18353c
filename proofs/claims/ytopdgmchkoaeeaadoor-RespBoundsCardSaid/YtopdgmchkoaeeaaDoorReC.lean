/- The document's text, bulk. -/
import Derived.Test.YtopdgmchkoaeeaaDoorReB
import Derived.Test.YtopdgmchkoaeeaaDoorRsE
namespace Go.Proofs.YtopdgmchkoaeeaaDoor
open Go.RowKit
set_option linter.unusedVariables false
set_option linter.unusedSimpArgs false

theorem skip_two (l : List UInt8) (a b : UInt8) (p : Nat) : mustS l b (skipS l [a] p) = skipS l [a, b] p := by
  simp only [skipS]
  by_cases hp : p < l.length
  · simp only [dif_pos hp]
    by_cases hc : l[p] = a
    · simp only [if_pos hc, mustS, skipS]
    · simp only [if_neg hc, mustS]
  · simp only [dif_neg hp, mustS]
theorem sub_cut (s : ByteArray) (p n : Nat) : s.extract p (p + n) = cutS s.data.toList p n := by
  apply ByteArray.ext
  apply Array.toList_inj.1
  simp [cutS, ByteArray.data_extract, Array.toList_extract]
/-- What text leaves. -/
def TexE (w : World) (g : Nat) (s : ByteArray) (t i : Int) (r : Except Int (ByteArray × Nat)) (e : Ending) (w' : World) : Prop :=
  Only g w w' ∧ ∃ x : ByteArray, e = .returned (.string x) ∧ (match r with
    | .ok y => x = y.1 ∧ RBlk w' g s (y.2 : Int) 0 (t - y.1.size) i
    | .error c => RefAt w' g s t i (.error c))
theorem TexE.ok {w : World} {g : Nat} {s : ByteArray} {t i : Int} {r : Except Int (ByteArray × Nat)} {e : Ending} {w' : World} {x : ByteArray} {p : Nat} (hr : r = .ok (x, p)) (he : e = .returned (.string x)) (hb : RBlk w' g s (p : Int) 0 (t - x.size) i) (ho : Only g w w') : TexE w g s t i r e w' := by
  subst hr; exact ⟨ho, x, he, rfl, hb⟩
theorem RefAt.bad {w : World} {g : Nat} {s : ByteArray} {t i t' i' : Int} {c : Int} (h : RefAt w g s t i (.error c)) : RefAt w g s t' i' (.error c) := h
theorem TexE.err {w : World} {g : Nat} {s : ByteArray} {t i : Int} {r : Except Int (ByteArray × Nat)} {e : Ending} {w' : World} {c : Int} (x : ByteArray) (hr : r = .error c) (he : e = .returned (.string x)) (hb : RefAt w' g s t i (.error c)) (ho : Only g w w') : TexE w g s t i r e w' := by
  subst hr; exact ⟨ho, x, he, hb⟩

set_option maxRecDepth 100000 in
set_option maxHeartbeats 2000000 in
theorem rtext_bad (n : Int) (w : World) (g : Nat) (s : ByteArray) (t i c : Int) (h : RefAt w g s t i (.error c)) :
    Calls Tryd.prog 68 #[.pointer (some ⟨g, 0, none⟩), .int .i64 n] w fun e w' => e = .returned (.string ⟨#[]⟩) ∧ Ext w w' := by
  obtain ⟨hc, p, t', i', hb⟩ := h
  have c0 := hb.cell 0
  have c1 := hb.cell 1
  have c2 := hb.cell 2
  have e0 : (c == 0) = false := by simpa using hc
  have e1 : (c != 0) = true := by simpa using hc
  simp only [List.getElem?_toArray, List.getElem?_cons_zero, List.getElem?_cons_succ] at c0 c1 c2
  clear hb hc
  go_enter Tryd.func68, Tryd.ntmps68
  go_wp2_with fail
  go_quiet (fail)
  have E1 := Lib.hid ((Ext.refl w).drewN nq)
  generalize w.drewN nq = w1 at E1 ⊢
  replace c2 := E1.out.cell c2
  go_wp2_with fail
  go_ret
  exact ⟨rfl, E1.out⟩
set_option maxRecDepth 100000 in
set_option maxHeartbeats 2000000 in
theorem rtext_short (n : Nat) (w : World) (g : Nat) (s : ByteArray) (p : Nat) (t i : Int) (h : RBlk w g s p 0 t i) (hp : p ≤ s.size) (hn : ¬ p + n ≤ s.size) (hs : s.size ≤ 9223372036854775000) :
    Calls Tryd.prog 68 #[.pointer (some ⟨g, 0, none⟩), .int .i64 n] w fun e w' => e = .returned (.string ⟨#[]⟩) ∧ RefAt w' g s t i (.error 130) ∧ Only g w w' := by
  have c0 := h.cell 0
  have c1 := h.cell 1
  have c2 := h.cell 2
  have d1 : IntKind.i64.wrap ((s.size : Int) - (p : Int)) = (s.size : Int) - (p : Int) := IntWalk.i64_in _ (by omega)
  have d2 : decide ((s.size : Int) - (p : Int) < (n : Int)) = true := decide_eq_true (by omega)
  simp only [List.getElem?_toArray, List.getElem?_cons_zero, List.getElem?_cons_succ] at c0 c1 c2
  have H := Lib.hid h
  clear h hn hs
  go_enter Tryd.func68, Tryd.ntmps68
  go_wp2_with fail
  go_quiet (fail)
  have E1 := Lib.hid ((Ext.refl w).drewN nq)
  generalize w.drewN nq = w1 at E1 ⊢
  go_wp2_with fail
  refine (fail_ok 130 w1 g s p t i (H.out.ext E1.out)).mono ?_
  rintro e w2 ⟨rfl, b2, o2⟩
  have c2 := b2.cell 2
  simp only [List.getElem?_toArray, List.getElem?_cons_zero, List.getElem?_cons_succ] at c2
  have B2 := Lib.hid b2
  have O2 := Lib.hid ((Only.of_ext E1.out).trans o2)
  clear b2 o2
  go_wp2_with fail
  go_ret
  exact ⟨rfl, ⟨by decide, _, _, _, B2.out⟩, O2.out⟩
set_option maxRecDepth 100000 in
set_option maxHeartbeats 2000000 in
theorem rtext_ok (n : Nat) (w : World) (g : Nat) (s : ByteArray) (p : Nat) (t i : Int) (h : RBlk w g s p 0 t i) (hn : p + n ≤ s.size) (hs : s.size ≤ 9223372036854775000) (ht : (n : Int) ≤ t) (ht2 : t ≤ 9223372036854775000) :
    Calls Tryd.prog 68 #[.pointer (some ⟨g, 0, none⟩), .int .i64 n] w fun e w' => e = .returned (.string (cutS s.data.toList p n)) ∧ RefAt w' g s (t - (n : Int)) i (skipS s.data.toList [13, 10] (p + n)) ∧ Only g w w' := by
  have c0 := h.cell 0
  have c1 := h.cell 1
  have c2 := h.cell 2
  have c3 := h.cell 3
  have z1 := h.frozen 1
  have z3 := h.frozen 3
  have d1 : IntKind.i64.wrap ((s.size : Int) - (p : Int)) = (s.size : Int) - (p : Int) := IntWalk.i64_in _ (by omega)
  have d2 : decide ((s.size : Int) - (p : Int) < (n : Int)) = false := decide_eq_false (by omega)
  have d3 : IntKind.i64.wrap ((p : Int) + (n : Int)) = (p : Int) + (n : Int) := IntWalk.i64_in _ (by omega)
  have d4 : IntKind.i64.wrap (t - (n : Int)) = t - (n : Int) := IntWalk.i64_in _ (by omega)
  simp only [List.getElem?_toArray, List.getElem?_cons_zero, List.getElem?_cons_succ] at c0 c1 c2 c3
  have k0 : (0 : Int) ≤ (p : Int) := by omega
  have k1 : (p : Int) ≤ (p : Int) + (n : Int) := by omega
  have k2 : (p : Int) + (n : Int) ≤ (s.size : Int) := by omega
  have hW := fun (w : World) (p : Nat) (t : Int) (h : RBlk w g s p 0 t i) => want_any 13 w g s t i (.ok p) h (by decide) (by omega)
  have hV := fun (w : World) (r : Except Int Nat) (t : Int) (h : RefAt w g s t i r) => want_any 10 w g s t i r h (by decide) (by omega)
  have HW := Lib.hid hW
  have HV := Lib.hid hV
  have HS2 := Lib.hid (skip_two s.data.toList 13 10 (p + n))
  have HCUT := Lib.hid (sub_cut s p n)
  have H := Lib.hid h
  clear h hW hV
  go_enter Tryd.func68, Tryd.ntmps68
  go_wp2_with fail
  go_quiet (fail)
  have E1 := Lib.hid ((Ext.refl w).drewN nq)
  generalize w.drewN nq = w1 at E1 ⊢
  replace c0 := E1.out.cell c0
  replace c1 := E1.out.cell c1
  replace c2 := E1.out.cell c2
  replace c3 := E1.out.cell c3
  replace z1 : w1.frozen? ⟨g, 1, none⟩ = false := ((Ext.cells E1.out).2 g 1 H.out.lt).trans z1
  replace z3 : w1.frozen? ⟨g, 3, none⟩ = false := ((Ext.cells E1.out).2 g 3 H.out.lt).trans z3
  go_wp2_with fail
  go_quiet (fail)
  have E2 := Lib.hid ((Ext.refl w1).drewN nq)
  generalize w1.drewN nq = w2 at E2 ⊢
  replace z1 : w2.frozen? ⟨g, 1, none⟩ = false := ((Ext.cells E2.out).2 g 1 (H.out.ext E1.out).lt).trans z1
  replace z3 : w2.frozen? ⟨g, 3, none⟩ = false := ((Ext.cells E2.out).2 g 3 (H.out.ext E1.out).lt).trans z3
  replace c0 := E2.out.cell c0
  replace c1 := E2.out.cell c1
  replace c3 := E2.out.cell c3
  have B3 : RBlk ((w2.setCell ⟨g, 1, none⟩ (.int .i64 ((p : Int) + (n : Int)))).setCell ⟨g, 3, none⟩ (.int .i64 (t - (n : Int)))) g s ((p + n : Nat) : Int) 0 (t - (n : Int)) i := by
    rw [Int.natCast_add]
    exact rblk_texts (rblk_at ((H.out.ext E1.out).ext E2.out) _) _
  have HB3 := Lib.hid B3
  have O3 := Lib.hid (((Only.of_ext (g := g) (E1.out.trans E2.out)).set 1 (.int .i64 ((p : Int) + (n : Int)))).set 3 (.int .i64 (t - (n : Int))))
  clear B3
  go_wp2_with fail
  refine (HW.out _ (p + n) _ HB3.out).mono ?_
  rintro e w3 ⟨rfl, r3, o3⟩
  have R3 := Lib.hid r3
  have O4 := Lib.hid (O3.out.trans o3)
  clear r3 o3 O3 HB3
  go_wp2_with fail
  refine (HV.out _ _ _ R3.out).mono ?_
  rintro e w4 ⟨rfl, r4, o4⟩
  have R4 := Lib.hid r4
  have O5 := Lib.hid (O4.out.trans o4)
  clear r4 o4 O4 R3
  go_wp2_with fail
  go_ret
  exact ⟨congrArg (fun x => Ending.returned (.string x)) HCUT.out, by rw [← HS2.out]; exact R4.out, O5.out⟩
theorem rtext_any (n : Nat) (w : World) (g : Nat) (s : ByteArray) (p : Nat) (t i : Int) (h : RBlk w g s p 0 t i) (hp : p ≤ s.size) (hs : s.size ≤ 9223372036854775000) (ht : (n : Int) ≤ t) (ht2 : t ≤ 9223372036854775000) :
    Calls Tryd.prog 68 #[.pointer (some ⟨g, 0, none⟩), .int .i64 n] w (TexE w g s t i (textS s.data.toList n p)) := by
  have hl : s.data.toList.length = s.size := rfl
  by_cases hn : p + n ≤ s.size
  · refine (rtext_ok n w g s p t i h hn hs ht ht2).mono ?_
    rintro e w' ⟨rfl, hr, ho⟩
    have hz := cut_size s.data.toList p n (by omega)
    unfold textS
    rw [if_pos (by omega)]
    cases hk : skipS s.data.toList [13, 10] (p + n) with
    | error c => rw [hk] at hr; exact TexE.err _ rfl rfl hr ho
    | ok q => rw [hk] at hr; exact TexE.ok rfl rfl (by rw [hz]; exact hr) ho
  · refine (rtext_short n w g s p t i h hp hn hs).mono ?_
    rintro e w' ⟨rfl, hr, ho⟩
    unfold textS
    rw [if_neg (by omega)]
    exact TexE.err _ rfl rfl hr ho
/-- What bulk tells. -/
def rbulkS (l : List UInt8) (t p : Nat) : Except Int (ByteArray × Nat) :=
  match skipS l [36] p with
  | .error e => .error e
  | .ok q => bulkS l t q
set_option maxRecDepth 100000 in
set_option maxHeartbeats 4000000 in
theorem rbulk_any (w : World) (g : Nat) (s : ByteArray) (p t : Nat) (i : Int) (h : RBlk w g s p 0 t i) (hp : p ≤ s.size) (hs : s.size ≤ 9223372036854775000) (ht : t ≤ 1048576) :
    Calls Tryd.prog 48 #[.pointer (some ⟨g, 0, none⟩)] w (TexE w g s t i (rbulkS s.data.toList t p)) := by
  have hW : Calls Tryd.prog 46 #[.pointer (some ⟨g, 0, none⟩), .int .u8 36] w fun e w' => e = .returned (.tuple #[]) ∧ RefAt w' g s t i (skipS s.data.toList [36] p) ∧ Only g w w' := want_any 36 w g s t i (.ok p) h (by decide) (by omega)
  have HW := Lib.hid hW
  have hl : s.data.toList.length = s.size := rfl
  have HL := Lib.hid hl
  have d0 : IntKind.u64.wrap (t : Int) = (t : Int) := IntWalk.u64_in _ (by omega)
  obtain ⟨l, hll⟩ : ∃ l, s.data.toList = l := ⟨_, rfl⟩
  obtain ⟨r, hr⟩ : ∃ r, rbulkS s.data.toList t p = r := ⟨_, rfl⟩
  rw [hr]
  unfold rbulkS at hr
  have HR := Lib.hid hr
  clear hW h hr hl hll
  go_enter Tryd.func48, Tryd.ntmps48
  go_wp2_with fail
  refine HW.out.mono ?_
  rintro e w1 ⟨rfl, r1, o1⟩
  have O1 := Lib.hid o1
  clear o1 HW
  cases hk : skipS s.data.toList [36] p with
  | error c =>
    rw [hk] at r1
    have S := HR.out
    rw [hk] at S
    have HE := Lib.hid S
    have HR1 := Lib.hid r1
    obtain ⟨_, p', t', i', hb⟩ := r1
    have c3 := hb.cell 3
    simp only [List.getElem?_toArray, List.getElem?_cons_zero, List.getElem?_cons_succ] at c3
    clear hb S HR hk
    go_wp2_with fail
    refine (digits_bad 0 0 0 _ _ _ _ _ _ _ HR1.out (by omega)).mono ?_
    rintro e w2 ⟨rfl, rfl⟩
    go_wp2_with fail
    refine (rtext_bad _ _ _ _ _ _ _ HR1.out).mono ?_
    rintro e w3 ⟨rfl, e3⟩
    have E3 := Lib.hid e3
    clear e3
    go_wp2_with fail
    go_ret
    obtain ⟨hc, p', t', i', hb⟩ := HR1.out
    exact TexE.err _ HE.out.symm rfl ⟨hc, _, _, _, hb.ext E3.out⟩ (O1.out.ext E3.out)
  | ok q =>
    rw [hk] at r1
    have S := HR.out
    rw [hk] at S
    have HE := Lib.hid S
    have HR1 : Hid (RBlk w1 g s q 0 t i) := Lib.hid r1
    have c3 := HR1.out.cell 3
    simp only [List.getElem?_toArray, List.getElem?_cons_zero, List.getElem?_cons_succ] at c3
    have HQ := Lib.hid (show q ≤ s.size by have h1 := (skip_pos _ _ _ (by have := HL.out; omega) hk).2; have := HL.out; omega)
    have hD : Calls Tryd.prog 47 #[.pointer (some ⟨g, 0, none⟩), .int .u64 0, .int .i64 0, .int .u64 0, .int .u64 (t : Int)] w1 (DigE w1 g s t i (numS s.data.toList 0 t (s.data.toList.length - q) 0 0 q)) := digits_any 0 0 0 t w1 g s q t i HR1.out (by omega) (by omega) hs (by omega) (by omega)
    have HD := Lib.hid hD
    clear r1 S HR hk hD
    go_wp2_with fail
    refine HD.out.mono ?_
    rintro e w2 ⟨o2, n, hn, rfl, hm⟩
    have O2 := Lib.hid (O1.out.trans o2)
    clear o2 HD c3
    cases hx : numS s.data.toList 0 t (s.data.toList.length - q) 0 0 q with
    | error c =>
      rw [hx] at hm
      have HR2 : Hid (RefAt w2 g s t i (.error c)) := Lib.hid hm
      have S := HE.out
      simp only [bulkS, hx] at S
      have HE2 := Lib.hid S
      clear hm S HE hx
      go_wp2_with fail
      refine (rtext_bad _ _ _ _ _ _ _ HR2.out).mono ?_
      rintro e w3 ⟨rfl, e3⟩
      have E3 := Lib.hid e3
      clear e3
      go_wp2_with fail
      go_ret
      obtain ⟨hc, p', t', i', hb⟩ := HR2.out
      exact TexE.err _ HE2.out.symm rfl ⟨hc, _, _, _, hb.ext E3.out⟩ (O2.out.ext E3.out)
    | ok x =>
      obtain ⟨n', q'⟩ := x
      rw [hx] at hm
      obtain ⟨rfl, hb2⟩ := hm
      have hpos := num_pos _ _ _ _ _ (by have := HQ.out; have := HL.out; omega) (by omega) hx
      simp only at hpos
      have S := HE.out
      simp only [bulkS, hx] at S
      have HE2 := Lib.hid S
      have HT := Lib.hid (rtext_any n w2 g s q' t i hb2 (by have := HL.out; omega) hs (by omega) (by omega))
      have d1 : IntKind.i64.wrap (n : Int) = (n : Int) := IntWalk.i64_in _ (by omega)
      clear hb2 S HE hx hpos
      go_wp2_with fail
      refine HT.out.mono ?_
      intro e w3 h3
      rw [HE2.out] at h3
      obtain ⟨o3, y, rfl, hm⟩ := h3
      have O3 := Lib.hid (O2.out.trans o3)
      have HM := Lib.hid hm
      clear o3 hm HT
      go_wp2_with fail
      go_ret
      exact ⟨O3.out, y, rfl, HM.out⟩
end Go.Proofs.YtopdgmchkoaeeaaDoor
