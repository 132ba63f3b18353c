/- RespEncode: the statement's walk. -/
import Derived.Test.YtopdgmchkoaeeaaDoorEnB
namespace Go.Proofs.YtopdgmchkoaeeaaDoor
open Go.RowKit
set_option linter.unusedVariables false
set_option linter.unusedSimpArgs false

theorem list_in {w W : World} {D : Nat} {v : Value} {l : List Rep} (h : ListAt (fun b => b < w.heap.size) w D v l) (hW : Ext w W) : ListAt (fun b => b < W.heap.size) W D v l :=
  h.keep (fun _ _ _ _ hc => hW.cell hc) (fun b hb _ => Nat.lt_of_lt_of_le hb hW.le)
theorem ok_fine {x : Rep} (hI : itR x ≤ 65536) (hT : txR x ≤ 1048576) : repOkB x = fineR 100 x := by
  cases hb : fineR 100 x with
  | true => exact (repOk_iff x).2 ⟨hb, hT, hI⟩
  | false =>
    cases hc : repOkB x with
    | false => rfl
    | true => have := ((repOk_iff x).1 hc).1; rw [hb] at this; cases this
set_option maxRecDepth 100000 in
set_option maxHeartbeats 8000000 in
theorem law_encode (w : World) (x : Rep) (q : Option Addr) (c D : Nat) (hx : ListAt (fun b => b < w.heap.size) w D (.slice q x.l.length c) x.l) (h6 : i64R x) (hpw : Pow w) :
    Calls Tryd.prog 8 #[repV x q c] w fun e w' => e = .returned (.bool true) ∧ Ext w w' := by
  have HE := Lib.hid ((Ext.refl w).alloc (.cells #[.int .i64 x.k, .int .i64 x.n, .string x.s, .slice q x.l.length c] 41))
  have HX := Lib.hid (Blk.new w 41 #[.int .i64 x.k, .int .i64 x.n, .string x.s, .slice q x.l.length c])
  have cX : ∀ W, Ext w W → Calls Tryd.prog 28 #[cellsV x.k x.n x.s (.slice q x.l.length c), .int .i64 0] W fun e w' => e = .returned (.int .i64 (szR x 0 : Int)) ∧ Ext W w' := fun W hW => size_any D _ W x _ 0 (hx.ext hW) (by omega)
  have hit : szR x 0 ≤ 3000 → itR x ≤ 1000 ∧ txR x ≤ 10000 := fun h => by have := szR_few x 0 (by omega) h; omega
  have cK : szR x 0 ≤ 3000 → ∀ W, Ext w W → Calls Tryd.prog 29 #[cellsV x.k x.n x.s (.slice q x.l.length c)] W fun e w' => e = .returned (.int .i64 (if fineR 100 x = true then 0 else 2)) ∧ Ext W w' := fun h W hW => rcheck_any D _ W x q c (hx.ext hW) (by have := hit h; omega) (by have := hit h; omega)
  have cE : szR x 0 ≤ 3000 → ∀ W, Ext w W → Calls Tryd.prog 27 #[cellsV x.k x.n x.s (.slice q x.l.length c)] W (EncE W x) := fun h W hW => encode_any W x q c D (list_in hx hW) h6 (hpw.ext hW)
  have cC : szR x 0 ≤ 3000 → ∀ W, Ext w W → Calls Tryd.prog 30 #[cellsV x.k x.n x.s (.slice q x.l.length c)] W fun e w' => e = .returned (.int .i64 (if fineR 100 x = true then 0 else 2)) ∧ Ext W w' := fun h W hW => by
    have := check_any W x q c D (list_in hx hW) h6 (hpw.ext hW)
    unfold ChkE at this
    rwa [ok_fine (by have := hit h; omega) (by have := hit h; omega)] at this
  have cR : szR x 0 ≤ 3000 → fineR 100 x = true → ∀ W, Ext w W → Calls Tryd.prog 31 #[cellsV x.k x.n x.s (.slice q x.l.length c)] W fun e w' => e = .returned (.string ⟨(encR x).toArray⟩) ∧ Ext W w' := fun h hf W hW => renc_any D _ W x _ 100 (hx.ext hW) hf (hit h).1 (hit h).2 h6 (hpw.ext hW)
  have CX := Lib.hid cX
  have CK := Lib.hid cK
  have CE := Lib.hid cE
  have CC := Lib.hid cC
  have CR := Lib.hid cR
  have HW := Lib.hid (fun W (hW : Ext w W) => works_any W (hpw.ext hW))
  have HOK := Lib.hid (fun (h : szR x 0 ≤ 3000) => ok_fine (x := x) (by have := hit h; omega) (by have := hit h; omega))
  clear hx hpw cX cK cE cC cR hit h6
  generalize szR x 0 = X at CX CK CE CC CR HOK
  go_enter Tryd.func8, Tryd.ntmps8
  go_wp2_with fail
  generalize w.alloc (.cells #[.int .i64 x.k, .int .i64 x.n, .string x.s, .slice q x.l.length c] 41) = w0 at HE HX ⊢
  refine (CX.out w0 HE.out).mono ?_
  rintro e w1 ⟨rfl, e1⟩
  have HE1 := Lib.hid (HE.out.trans e1)
  have HX1 := Lib.hid (HX.out.ext e1)
  clear HE HX e1
  have x0 := HX1.out.cell 0
  have x1 := HX1.out.cell 1
  have x2 := HX1.out.cell 2
  have x3 := HX1.out.cell 3
  simp only [List.getElem?_toArray, List.getElem?_cons_zero, List.getElem?_cons_succ] at x0 x1 x2 x3
  by_cases hX : X ≤ 3000
  · have d1 : decide ((3000 : Int) < (X : Int)) = false := decide_eq_false (by omega)
    have d1n : decide (3000 < X) = false := decide_eq_false (by omega)
    have KK := Lib.hid (CK.out hX)
    have KE := Lib.hid (CE.out hX)
    have KC := Lib.hid (CC.out hX)
    have KR := Lib.hid (CR.out hX)
    have KO := Lib.hid (HOK.out hX)
    clear CK CE CC CR CX HOK hX
    go_wp2_with fail
    refine (KK.out w1 HE1.out).mono ?_
    rintro e w2 ⟨rfl, e2⟩
    have HE2 := Lib.hid (HE1.out.trans e2)
    have HX2 := Lib.hid (HX1.out.ext e2)
    have x0 := HX2.out.cell 0
    have x1 := HX2.out.cell 1
    have x2 := HX2.out.cell 2
    have x3 := HX2.out.cell 3
    simp only [List.getElem?_toArray, List.getElem?_cons_zero, List.getElem?_cons_succ] at x0 x1 x2 x3
    clear HE1 HX1 e2 KK d1 d1n
    cases hf : fineR 100 x with
    | false =>
      rw [hf] at KC KO
      have HF := Lib.hid hf
      clear KR hf
      simp only [Bool.false_eq_true, if_false] at KC ⊢
      go_wp2_with fail
      refine (KE.out w2 HE2.out).mono ?_
      intro e w3 h3
      obtain ⟨e3, hif⟩ := h3
      rw [KO.out] at hif
      simp only [Bool.false_eq_true, if_false] at hif
      subst hif
      have HE3 := Lib.hid (HE2.out.trans e3)
      have HX3 := Lib.hid (HX2.out.ext e3)
      have x0 := HX3.out.cell 0
      have x1 := HX3.out.cell 1
      have x2 := HX3.out.cell 2
      have x3 := HX3.out.cell 3
      simp only [List.getElem?_toArray, List.getElem?_cons_zero, List.getElem?_cons_succ] at x0 x1 x2 x3
      clear e3 HE2 HX2
      go_wp2_with fail
      refine (KC.out w3 HE3.out).mono ?_
      rintro e w4 ⟨rfl, e4⟩
      have HE4 := Lib.hid (HE3.out.trans e4)
      clear e4 HE3 HX3 x0 x1 x2 x3
      go_wp2_with (go_at_call 16; refine (num_any _ _).mono ?_; rintro e w' ⟨rfl, rfl⟩)
      refine (HW.out w4 HE4.out).mono ?_
      rintro e w5 ⟨rfl, e5⟩
      have HE5 := Lib.hid (HE4.out.trans e5)
      clear e5
      go_wp2_with fail
      go_ret
      exact ⟨rfl, HE5.out⟩
    | true =>
      rw [hf] at KC KO
      have KR2 := Lib.hid (KR.out hf)
      clear KR hf
      simp only [if_true] at KC ⊢
      go_wp2_with fail
      refine (KE.out w2 HE2.out).mono ?_
      intro e w3 h3
      obtain ⟨e3, hif⟩ := h3
      rw [KO.out] at hif
      simp only [if_true] at hif
      obtain ⟨v3, rfl, q3, c3, rfl, hb3, _⟩ := hif
      have HE3 := Lib.hid (HE2.out.trans e3)
      have HX3 := Lib.hid (HX2.out.ext e3)
      have HB3 := Lib.hid hb3
      have x0 := HX3.out.cell 0
      have x1 := HX3.out.cell 1
      have x2 := HX3.out.cell 2
      have x3 := HX3.out.cell 3
      simp only [List.getElem?_toArray, List.getElem?_cons_zero, List.getElem?_cons_succ] at x0 x1 x2 x3
      clear e3 HE2 HX2 hb3
      go_wp2_with fail
      refine (KC.out w3 HE3.out).mono ?_
      rintro e w4 ⟨rfl, e4⟩
      have HE4 := Lib.hid (HE3.out.trans e4)
      have CV : Hid (∀ wq, Ext w4 wq → (convert 25 9 (.slice q3 (encR x).length c3)).run Tryd.prog wq = .ok (.string ⟨(encR x).toArray⟩) wq) := Lib.hid (fun wq hq => conv_any (HB3.out.ext (e4.trans hq)))
      have HX4 := Lib.hid (HX3.out.ext e4)
      have x0 := HX4.out.cell 0
      have x1 := HX4.out.cell 1
      have x2 := HX4.out.cell 2
      have x3 := HX4.out.cell 3
      simp only [List.getElem?_toArray, List.getElem?_cons_zero, List.getElem?_cons_succ] at x0 x1 x2 x3
      clear e4 HE3 HX3 HB3
      generalize (⟨(encR x).toArray⟩ : ByteArray) = S at KR2 CV
      go_wp2_with (go_at_call 16; refine (num_any _ _).mono ?_; rintro e w' ⟨rfl, rfl⟩)
      refine wp_region_ext (by kernel_rfl) (by kernel_rfl) ?_
      repeat (
        first
          | go_big_quiet_skip
          | (go_big_quiet_want
             go_big_quiet_op
             first
               | go_big_quiet_on
               | (apply Exists.intro
                  refine ⟨fun wq hq => ?_, ?_⟩
                  focus (
                    have x0 := hq.cell x0
                    have x1 := hq.cell x1
                    have x2 := hq.cell x2
                    have x3 := hq.cell x3
                    have v1 := CV.out wq hq
                    first
                      | (go_at_call 13; exact Calls.ext_of hq (HW.out wq (HE4.out.trans hq)); done)
                      | (go_at_call 31; exact Calls.ext_of hq (KR2.out wq (HE4.out.trans hq)); done)
                      | (go_simp; exact rfl))
                  go_big_quiet_on)))
      refine wpQuiet_nil ?_
      intro we hwe
      clear x0 x1 x2 x3
      go_wp2_with fail
      go_ret
      exact ⟨rfl, HE4.out.trans hwe⟩
  · have d1 : decide ((3000 : Int) < (X : Int)) = true := decide_eq_true (by omega)
    have d1n : decide (3000 < X) = true := decide_eq_true (by omega)
    go_wp2_with fail
    refine (HW.out w1 HE1.out).mono ?_
    rintro e w3 ⟨rfl, e3⟩
    have HE3 := Lib.hid (HE1.out.trans e3)
    clear e3
    go_wp2_with fail
    go_ret
    exact ⟨rfl, HE3.out⟩
end Go.Proofs.YtopdgmchkoaeeaaDoor
