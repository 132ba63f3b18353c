/- May an instruction be: the reference's answer is the code's. May a program be: the reference's answer is the code's. -/
import Derived.Test.YtfjipoijbmmjcaaGreatDoorYRin1
import Derived.Test.YtfjipoijbmmjcaaGreatDoorYRin2
import Derived.Test.YtfjipoijbmmjcaaGreatDoorYRin3
import Derived.Test.YtfjipoijbmmjcaaGreatDoorYRin4
import Derived.Test.YtfjipoijbmmjcaaGreatDoorYA6
namespace Go.Proofs.YtfjipoijbmmjcaaGreatDoor
open Go.RowKit
set_option linter.unusedVariables false
set_option linter.unusedSimpArgs false

theorem rinstr_any (p : Pg) (f : Pr) (vp vi vt cv : Value) (i : Ins) (v : Bool) (hv : insB p f i = v) (w : World) (h : Lies w vp vi vt p) (hc : CodeAt w cv f.cd) (hb : Bounds p f) (n1 : p.ps.length ≤ 1000) (n2 : p.ts.length ≤ 1000) :
  Calls Tryz.prog 20 #[.agg #[vp, vi, vt], .agg #[.int .i64 f.pa, .int .i64 f.rg, cv], insV i] w fun e w' => e = .returned (.bool v) ∧ Ext w w' := by
 obtain ⟨qp, cp, rfl, hp⟩ := h.ps
 obtain ⟨qi, ci, rfl⟩ := h.is
 obtain ⟨qt, ct, rfl, ht⟩ := h.ts
 obtain ⟨qc, cc, rfl, _⟩ := hc
 obtain ⟨op, a, b, c⟩ := i
 obtain ⟨r0, r1, _⟩ := hb
 by_cases hlo : op < 1
 ·exact rin_lo _ _ _ _ op f a b c w hlo v (by rw [← hv]; simp only [insB, show decide (1 ≤ op) = false from decide_eq_false (by omega), Bool.false_and])
 by_cases hhi : 35 < op
 ·exact rin_hi _ _ _ _ op f a b c w hhi v (by rw [← hv]; simp only [insB, show decide (op ≤ 35) = false from decide_eq_false (by omega), Bool.false_and, Bool.and_false])
 by_cases hmid : 10 ≤ op ∧ op ≤ 23
 ·exact rin_mid _ _ _ _ op f a b c w hmid.1 hmid.2 v (by
   rw [← hv]
   have e1 : ka op = 1 := by unfold ka; repeat' split <;> omega
   have e2 : kb op = 1 := by unfold kb; repeat' split <;> omega
   have e3 : kc op = 1 := by unfold kc; repeat' split <;> omega
   have e4 : extra p f ⟨op, a, b, c⟩ = true := by
    unfold extra
    simp only
    repeat' split
    all_goals first | rfl | (exfalso; omega)
   simp only [insB, e1, e2, e3, e4, show decide (1 ≤ op) = true from decide_eq_true (by omega), show decide (op ≤ 35) = true from decide_eq_true (by omega)]
   simp [opd])
 have hk : op = 1 ∨ op = 2 ∨ op = 3 ∨ op = 4 ∨ op = 5 ∨ op = 6 ∨ op = 7 ∨ op = 8 ∨ op = 9 ∨ op = 24 ∨ op = 25 ∨ op = 26 ∨ op = 27 ∨ op = 28 ∨ op = 29 ∨ op = 30 ∨ op = 31 ∨ op = 32 ∨ op = 33 ∨ op = 34 ∨ op = 35 := by omega
 clear hlo hhi hmid
 rcases hk with rfl | rfl | rfl | rfl | rfl | rfl | rfl | rfl | rfl | rfl | rfl | rfl | rfl | rfl | rfl | rfl | rfl | rfl | rfl | rfl | rfl
 ·exact rin_1 _ _ _ _ f a b c w v (by rw [← hv, Bool.eq_iff_iff]; simp [insB, opd, ka, kb, kc, extra]; try omega)
 ·exact rin_2 _ _ _ _ f a b c w v (by rw [← hv, Bool.eq_iff_iff]; simp [insB, opd, ka, kb, kc, extra]; try omega)
 ·exact rin_3 _ _ _ _ f a b c w v (by rw [← hv, Bool.eq_iff_iff]; simp [insB, opd, ka, kb, kc, extra]; try omega)
 ·exact rin_4 _ _ _ qi p.ni ci f a b c w v (by rw [← hv, Bool.eq_iff_iff]; simp [insB, opd, ka, kb, kc, extra]; try omega)
 ·exact rin_5 _ _ _ qt p.ts.length ct f a b c w v (by rw [← hv, Bool.eq_iff_iff]; simp [insB, opd, ka, kb, kc, extra]; try omega)
 ·exact rin_6 _ _ _ _ f a b c w v (by rw [← hv, Bool.eq_iff_iff]; simp [insB, opd, ka, kb, kc, extra]; try omega)
 ·exact rin_7 _ _ _ _ f a b c w v (by rw [← hv, Bool.eq_iff_iff]; simp [insB, opd, ka, kb, kc, extra]; try omega)
 ·exact rin_8 _ _ _ _ f a b c w v (by rw [← hv, Bool.eq_iff_iff]; simp [insB, opd, ka, kb, kc, extra]; try omega)
 ·exact rin_9 _ _ _ _ f a b c w v (by rw [← hv, Bool.eq_iff_iff]; simp [insB, opd, ka, kb, kc, extra]; try omega)
 ·exact rin_24 _ _ _ _ f a b c w v (by rw [← hv, Bool.eq_iff_iff]; simp [insB, opd, ka, kb, kc, extra]; try omega)
 ·exact rin_25 _ _ _ _ f a b c w v (by rw [← hv, Bool.eq_iff_iff]; simp [insB, opd, ka, kb, kc, extra]; try omega)
 ·exact rin_26 _ _ _ _ f a b c w v (by rw [← hv, Bool.eq_iff_iff]; simp [insB, opd, ka, kb, kc, extra]; try omega)
 ·exact rin_27 _ _ _ qc f.cd.length cc f a b c w v (by rw [← hv, Bool.eq_iff_iff]; simp [insB, opd, ka, kb, kc, extra]; try omega)
 ·exact rin_28 _ _ _ qc f.cd.length cc f a b c w v (by rw [← hv, Bool.eq_iff_iff]; simp [insB, opd, ka, kb, kc, extra]; try omega)
 ·exact rin_29 _ _ _ qc f.cd.length cc f a b c w v (by rw [← hv, Bool.eq_iff_iff]; simp [insB, opd, ka, kb, kc, extra]; try omega)
 ·exact rin_30 _ _ _ qc f.cd.length cc f a b c w r0 r1 v (by rw [← hv, Bool.eq_iff_iff]; simp [insB, opd, ka, kb, kc, extra]; try omega)
 ·exact rin_31 _ _ _ qc f.cd.length cc f a b c w r0 r1 v (by rw [← hv, Bool.eq_iff_iff]; simp [insB, opd, ka, kb, kc, extra]; try omega)
 ·refine rin_32 _ _ _ qp p.ps.length cp (p.ps.getD b.toNat ⟨0, 0, []⟩).pa f a b c w (by omega) ?_ r0 r1 v (by rw [← hv, Bool.eq_iff_iff]; simp [insB, opd, ka, kb, kc, extra]; try omega)
  intro hb0 hb1
  obtain ⟨j, rfl⟩ : ∃ j : Nat, b = j := ⟨b.toNat, by have := of_decide_eq_true hb0; omega⟩
  have hj : j < p.ps.length := by have := of_decide_eq_true hb1; omega
  obtain ⟨pb, po, rfl, hx⟩ := hp (by omega)
  exact ⟨pb, po, rfl, j, rfl, by rw [(hx j hj).1]; simp [List.getD, hj]⟩
 ·refine rin_33 _ _ _ qt p.ts.length ct (builtB (p.ts.getD b.toNat ⟨#[]⟩)) f a b c w (by omega) ?_ r0 r1 v (by
   rw [← hv, Bool.eq_iff_iff]
   obtain ⟨u, hu⟩ : ∃ u, builtB (p.ts.getD b.toNat ⟨#[]⟩) = u := ⟨_, rfl⟩
   simp only [insB, opd, ka, kb, kc, extra, hu]
   cases u <;> simp <;> omega)
  intro hb0 hb1
  obtain ⟨j, rfl⟩ : ∃ j : Nat, b = j := ⟨b.toNat, by have := of_decide_eq_true hb0; omega⟩
  have hj : j < p.ts.length := by have := of_decide_eq_true hb1; omega
  obtain ⟨pb, po, rfl, hx⟩ := ht (by omega)
  exact ⟨pb, po, rfl, j, p.ts[j], rfl, hx j hj, by simp [List.getD, hj]⟩
 ·exact rin_34 _ _ _ _ f a b c w v (by rw [← hv, Bool.eq_iff_iff]; simp [insB, opd, ka, kb, kc, extra]; try omega)
 ·exact rin_35 _ _ _ _ f a b c w v (by rw [← hv, Bool.eq_iff_iff]; simp [insB, opd, ka, kb, kc, extra]; try omega)
end Go.Proofs.YtfjipoijbmmjcaaGreatDoor
namespace Go.Proofs.YtfjipoijbmmjcaaGreatDoor
open Go.RowKit Go.BigFrame
set_option linter.unusedVariables false
set_option linter.unusedSimpArgs false

def pOK (f : Pr) : Bool := prB f && endB f.cd
def iOK (p : Pg) (f : Pr) : Bool := f.cd.all (insB p f)
theorem all_and {α : Type} (l : List α) (g h : α → Bool) : (l.all fun x => g x && h x) = (l.all g && l.all h) := by
 induction l with
 | nil => rfl
 | cons x l ih => simp only [List.all_cons, ih]; cases g x <;> cases h x <;> simp
theorem chk_eq' (p : Pg) (f : Pr) (l : List Pr) (h : p.ps = f :: l) : chkB p = ((f.pa == 0) && p.ps.all pOK && p.ps.all (iOK p)) := by
 rw [chk_eq p f l h]
 rw [show p.ps.all (okP p) = (p.ps.all (fun f => endB f.cd) && p.ps.all (iOK p)) from all_and p.ps _ _, show p.ps.all pOK = (p.ps.all prB && p.ps.all (fun f => endB f.cd)) from all_and p.ps _ _]
 simp only [Bool.and_assoc]
theorem pok_prb {p : Pg} (h : p.ps.all pOK = true) : p.ps.all prB = true := by
 rw [show p.ps.all pOK = (p.ps.all prB && p.ps.all (fun f => endB f.cd)) from all_and p.ps _ _, Bool.and_eq_true] at h
 exact h.1
theorem rcnt_any (l : List Pr) (vp vi vt : Value) (w : World) (h : ProtosAt w vp l) (hn : l.length ≤ 1000) (hl : ∀ f ∈ l, f.cd.length ≤ 1000) (m : Nat) (hm : cntTo l l.length = m) :
  Calls Tryz.prog 19 #[.agg #[vp, vi, vt]] w fun e w' => e = .returned (.int .i64 m) ∧ Ext w w' := hm ▸ rcount_any l vp vi vt w h hn hl
set_option maxRecDepth 100000 in
set_option maxHeartbeats 4000000 in
theorem rchk_none (vp vi vt : Value) (w : World) (h : ProtosAt w vp []) : Calls Tryz.prog 8 #[.agg #[vp, vi, vt]] w fun e w' => e = .returned (.bool false) ∧ Ext w w' := by
  obtain ⟨q, c, rfl, hq⟩ := h
  clear hq
  go_enter Tryz.func8, Tryz.ntmps8
  go_wp2_with fail
  refine wp_region_ext (by kernel_rfl) (by kernel_rfl) ?_
  repeat (
    first
      | go_big_quiet_skip
      | (go_big_quiet_want
         go_big_quiet_op
         first
           | go_big_quiet_on
           | (apply Exists.intro
              refine ⟨fun wq hq => ?_, ?_⟩
              focus (
                have q1 := (Ext.cells hq).1
                have q2 := (Ext.cells hq).2
                first
                  | (fail; done)
                  | (go_simp; exact rfl))
              go_big_quiet_on)))
  refine wpQuiet_nil ?_
  intro we hwe
  go_wp2_with fail
  go_ret
  exact ⟨rfl, ((Ext.refl w).alloc _).trans hwe⟩
set_option maxRecDepth 100000 in
set_option maxHeartbeats 4000000 in
theorem rchk_head (p : Pg) (f0 : Pr) (tl : List Pr) (hp : p.ps = f0 :: tl) (vp vi vt : Value) (w : World) (h : Lies w vp vi vt p) (hs : Few p) (h0 : (f0.pa == 0) = false) :
    Calls Tryz.prog 8 #[.agg #[vp, vi, vt]] w fun e w' => e = .returned (.bool false) ∧ Ext w w' := by
  obtain ⟨q, c, rfl, hq⟩ := h.ps
  obtain ⟨b, o, rfl, hx⟩ := hq (by rw [hp]; simp)
  clear hq
  obtain ⟨qi, ci, rfl⟩ := h.is
  obtain ⟨qt, ct, rfl, hqt⟩ := h.ts
  clear hqt
  obtain ⟨n, hn⟩ : ∃ n, p.ps.length = n := ⟨_, rfl⟩
  obtain ⟨nt, hnt⟩ : ∃ n, p.ts.length = n := ⟨_, rfl⟩
  have n1 : 1 ≤ n := by rw [← hn, hp]; simp
  have n2 : n ≤ 1000 := by rw [← hn]; exact hs.np
  have nt2 : nt ≤ 1000 := by rw [← hnt]; exact hs.nt
  have ni2 : p.ni ≤ 1000 := hs.ni
  have c0 : w.cell? ⟨b, o, none⟩ = some (.int .i64 f0.pa) := by
    have := (hx 0 (by omega)).1
    simpa [hp] using this
  have lb := cell_lt c0
  simp only at lb
  have HX := Lib.hid hx
  have H := Lib.hid h
  clear hx h
  rw [hn, hnt] at H
  rw [hn, hnt]
  have HN := Lib.hid hn
  have HT := Lib.hid hnt
  clear hn hnt
  have d1 : decide ((n : Int) < 1) = false := decide_eq_false (by omega)
  have d2 : decide (1000 < (n : Int)) = false := decide_eq_false (by omega)
  have d3 : (f0.pa != 0) = true := by simpa using h0
  clear HX H HN HT hs hp h0
  go_enter Tryz.func8, Tryz.ntmps8
  go_wp2_with fail
  refine wp_region_ext (by kernel_rfl) (by kernel_rfl) ?_
  repeat (
    first
      | go_big_quiet_skip
      | (go_big_quiet_want
         go_big_quiet_op
         first
           | go_big_quiet_on
           | (apply Exists.intro
              refine ⟨fun wq hq => ?_, ?_⟩
              focus (
                have q1 := (Ext.cells hq).1
                have q2 := (Ext.cells hq).2
                first
                  | (fail; done)
                  | (go_simp; exact rfl))
              go_big_quiet_on)))
  refine wpQuiet_nil ?_
  intro we hwe
  go_wp2_with fail
  go_ret
  exact ⟨rfl, ((Ext.refl w).alloc _).trans hwe⟩
set_option maxRecDepth 100000 in
set_option maxHeartbeats 8000000 in
theorem rchk_bad (p : Pg) (f0 : Pr) (tl : List Pr) (hp : p.ps = f0 :: tl) (vp vi vt : Value) (w : World) (h : Lies w vp vi vt p) (hs : Sm p) (h0 : (f0.pa == 0) = true) (h1 : p.ps.all pOK = false) :
    Calls Tryz.prog 8 #[.agg #[vp, vi, vt]] w fun e w' => e = .returned (.bool false) ∧ Ext w w' := by
  obtain ⟨q, c, rfl, hq⟩ := h.ps
  obtain ⟨b, o, rfl, hx⟩ := hq (by rw [hp]; simp)
  clear hq
  obtain ⟨qi, ci, rfl⟩ := h.is
  obtain ⟨qt, ct, rfl, hqt⟩ := h.ts
  clear hqt
  obtain ⟨n, hn⟩ : ∃ n, p.ps.length = n := ⟨_, rfl⟩
  obtain ⟨nt, hnt⟩ : ∃ n, p.ts.length = n := ⟨_, rfl⟩
  have n1 : 1 ≤ n := by rw [← hn, hp]; simp
  have n2 : n ≤ 1000 := by rw [← hn]; exact hs.np
  have nt2 : nt ≤ 1000 := by rw [← hnt]; exact hs.nt
  have ni2 : p.ni ≤ 1000 := hs.ni
  have c0 : w.cell? ⟨b, o, none⟩ = some (.int .i64 f0.pa) := by
    have := (hx 0 (by omega)).1
    simpa [hp] using this
  have lb := cell_lt c0
  simp only at lb
  have HX := Lib.hid hx
  have H := Lib.hid h
  clear hx h
  rw [hn, hnt] at H
  rw [hn, hnt]
  have HN := Lib.hid hn
  have HT := Lib.hid hnt
  clear hn hnt
  have d1 : decide ((n : Int) < 1) = false := decide_eq_false (by omega)
  have d2 : decide (1000 < (n : Int)) = false := decide_eq_false (by omega)
  have d3 : (f0.pa != 0) = false := by simpa using h0
  obtain ⟨m, hm⟩ : ∃ m, cntTo p.ps p.ps.length = m := ⟨_, rfl⟩
  have m2 : m ≤ 20000 := by
    have := hs.tot
    omega
  have cC := fun W (hE : Ext w W) => rcnt_any p.ps _ (.slice qi p.ni ci) (.slice qt nt ct) W (H.out.ps.ext hE) (Nat.le_trans hs.np (by omega)) hs.nc m hm
  have s1 : IntKind.i64.wrap ((m : Int) + (p.ni : Int)) = (m : Int) + (p.ni : Int) := IntWalk.i64_in _ (by omega)
  have s2 : IntKind.i64.wrap ((m : Int) + (p.ni : Int) + (nt : Int)) = (m : Int) + (p.ni : Int) + (nt : Int) := IntWalk.i64_in _ (by omega)
  have d4 : decide (65536 < (m : Int) + (p.ni : Int) + (nt : Int)) = false := decide_eq_false (by omega)
  clear hm
  go_enter Tryz.func8, Tryz.ntmps8
  go_wp2_with fail
  refine wp_region_ext (by kernel_rfl) (by kernel_rfl) ?_
  repeat (
    first
      | go_big_quiet_skip
      | (go_big_quiet_want
         go_big_quiet_op
         first
           | go_big_quiet_on
           | (apply Exists.intro
              refine ⟨fun wq hq => ?_, ?_⟩
              focus (
                have q1 := (Ext.cells hq).1
                have q2 := (Ext.cells hq).2
                first
                  | ((go_at_call 19; exact Calls.ext_of hq (cC _ (((Ext.refl w).alloc _).trans hq))); done)
                  | (go_simp; exact rfl))
              go_big_quiet_on)))
  refine wpQuiet_nil ?_
  intro we hwe
  clear cC s1 s2 d1 d2 d3 d4 m2 c0
  have k0 : Ext w we := ((Ext.refl w).alloc _).trans hwe
  have b0 := hwe.cell (a := ⟨w.heap.size, 0, none⟩) (v := .slice (some ⟨b, o, none⟩) n c) (by go_simp)
  have b1 := hwe.cell (a := ⟨w.heap.size, 1, none⟩) (v := (.slice qi p.ni ci)) (by go_simp)
  have b2 := hwe.cell (a := ⟨w.heap.size, 2, none⟩) (v := .slice qt nt ct) (by go_simp)
  clear hwe
  go_wp2_with fail
  go_loopg [3] nt (fun g s3 wr => ∃ (k : Nat), k + g = nt ∧ s3 = .int .i64 k ∧ Ext we wr)
  case atStart => exact ⟨0, by omega, rfl, Ext.refl _⟩
  case round =>
    obtain ⟨k, hkg, rfl, he⟩ := hrel
    replace b0 := he.cell b0
    replace b1 := he.cell b1
    replace b2 := he.cell b2
    cases gk with
    | succ g =>
      have hkz : (k : Int) < (nt : Int) := by omega
      have hkl : k < p.ts.length := by rw [HT.out]; omega
      obtain ⟨qq, cc, hqe, hqt⟩ := H.out.ts
      cases hqe
      obtain ⟨tb, tof, rfl, hct⟩ := hqt (by omega)
      have c1 := he.cell (k0.cell (hct k hkl))
      have hz := hs.sz _ (List.getElem_mem hkl)
      obtain ⟨s0, hs0⟩ : ∃ s0, p.ts[k] = s0 := ⟨_, rfl⟩
      rw [hs0] at c1 hz
      clear hs0 hct hqt hkl
      have dz : decide (1048576 < (s0.size : Int)) = false := decide_eq_false (by omega)
      have HE := Lib.hid he
      clear he
      go_wp2_with fail
      go_roundg g
      case rel => exact ⟨k + 1, by omega, by go_num, HE.out⟩
      case measure => exact Nat.lt_succ_self _
    | zero =>
      obtain rfl : k = nt := by omega
      have hkz : ¬ ((k : Int) < (k : Int)) := by omega
      replace k0 := k0.trans he
      clear he
      obtain ⟨wb, rfl⟩ : ∃ wb : World, wb = wr := ⟨_, rfl⟩
      go_wp2_with fail
      go_loopg [4] n (fun g s4 wr => ∃ (j : Nat), j + g = n ∧ s4 = .int .i64 j ∧ Ext wb wr ∧ Hid ((p.ps.take j).all pOK = true))
      case atStart => exact ⟨0, by omega, rfl, Ext.refl _, rfl⟩
      case round =>
        obtain ⟨j, hjg, rfl, he, HA⟩ := hrel
        cases gk with
        | zero =>
          obtain rfl : j = n := by omega
          have := HA.out
          rw [List.take_of_length_le (by rw [HN.out]; exact Nat.le_refl _), h1] at this
          cases this
        | succ g =>
          have hjz : (j : Int) < (n : Int) := by omega
          have hjl : j < p.ps.length := by rw [HN.out]; omega
          obtain ⟨q1, cc, c1, c2, c3, c4⟩ := proto_at HX.out j hjl
          replace c1 := he.cell (k0.cell c1)
          replace c2 := he.cell (k0.cell c2)
          replace c3 := he.cell (k0.cell c3)
          replace c4 := c4.ext (k0.trans he)
          replace b0 := he.cell b0
          replace k0 := k0.trans he
          have HS := Lib.hid (all_take p.ps pOK j hjl)
          have hln := hs.nc _ (List.getElem_mem hjl)
          obtain ⟨g0, hg0⟩ : ∃ g0, p.ps[j] = g0 := ⟨_, rfl⟩
          rw [hg0] at c1 c2 c3 c4 HS hln
          clear hg0 hjl b1 b2
          have HE := Lib.hid he
          have C4 := Lib.hid c4
          clear he c4
          have lb1 := cell_lt c1
          have lb0 := cell_lt b0
          simp only at lb1 lb0
          cases z1 : decide (g0.pa < 0)
          rotate_left
          · go_wp2_with fail
            go_ret
            exact ⟨rfl, k0.alloc _⟩
          cases z2 : decide (g0.rg < g0.pa)
          rotate_left
          · go_wp2_with fail
            go_ret
            exact ⟨rfl, k0.alloc _⟩
          cases z3 : decide (500 < g0.rg)
          rotate_left
          · go_wp2_with fail
            go_ret
            exact ⟨rfl, k0.alloc _⟩
          rcases Nat.eq_zero_or_pos g0.cd.length with z4 | z4
          · rw [z4] at c3
            go_wp2_with fail
            go_ret
            exact ⟨rfl, k0.alloc _⟩
          obtain ⟨mc, hmc⟩ : ∃ mc, g0.cd.length = mc + 1 := ⟨g0.cd.length - 1, by omega⟩
          obtain ⟨q2, c5, he5, hq5⟩ := C4.out
          cases he5
          obtain ⟨cb, co, rfl, hc5⟩ := hq5 (by omega)
          have y0 := (hc5 mc (by omega)).1
          have hend := end_last g0.cd mc hmc
          obtain ⟨x, hx'⟩ : ∃ x, (g0.cd[mc]'(by omega)).op = x := ⟨_, rfl⟩
          rw [hx'] at y0 hend
          clear hx' hc5 hq5
          rw [hmc] at c3 hln
          have hz4 : ((((mc + 1 : Nat)) : Int) == 0) = false := by simp; omega
          have ly := cell_lt y0
          simp only at ly
          clear C4
          have HM := Lib.hid hmc
          clear hmc
          cases w1 : (x == 27)
          · cases w2 : (x == 34)
            · cases w3 : (x == 35)
              · have v1 : (x != 27) = true := by simpa using w1
                have v2 : (x != 34) = true := by simpa using w2
                have v3 : (x != 35) = true := by simpa using w3
                go_wp2_with fail
                go_ret
                exact ⟨rfl, k0.alloc _⟩
              · have v1 : (x != 27) = true := by simpa using w1
                have v2 : (x != 34) = true := by simpa using w2
                have v3 : (x != 35) = false := by simpa using w3
                have HZ : Hid ((p.ps.take (j + 1)).all pOK = true) := by
                  have e1 := of_decide_eq_false z1
                  have e2 := of_decide_eq_false z2
                  have e3 := of_decide_eq_false z3
                  have e4 : decide (0 ≤ g0.pa) = true := decide_eq_true (by omega)
                  have e5 : decide (g0.pa ≤ g0.rg) = true := decide_eq_true (by omega)
                  have e6 : decide (g0.rg ≤ 500) = true := decide_eq_true (by omega)
                  rw [HS.out, HA.out, pOK, prB, hend, e4, e5, e6, w1, w2, w3]; rfl
                have HE2 := Lib.hid (HE.out.alloc (.cells #[.int .i64 g0.pa, .int .i64 g0.rg, .slice (some ⟨cb, co, none⟩) (mc + 1) cc] 39))
                clear hend w1 w2 w3
                go_wp2_with fail
                go_roundg g
                case rel => exact ⟨j + 1, by omega, by go_num, HE2.out, HZ⟩
                case measure => exact Nat.lt_succ_self _
            · have v1 : (x != 27) = true := by simpa using w1
              have v2 : (x != 34) = false := by simpa using w2
              have HZ : Hid ((p.ps.take (j + 1)).all pOK = true) := by
                have e1 := of_decide_eq_false z1
                have e2 := of_decide_eq_false z2
                have e3 := of_decide_eq_false z3
                have e4 : decide (0 ≤ g0.pa) = true := decide_eq_true (by omega)
                have e5 : decide (g0.pa ≤ g0.rg) = true := decide_eq_true (by omega)
                have e6 : decide (g0.rg ≤ 500) = true := decide_eq_true (by omega)
                rw [HS.out, HA.out, pOK, prB, hend, e4, e5, e6, w1, w2]; rfl
              have HE2 := Lib.hid (HE.out.alloc (.cells #[.int .i64 g0.pa, .int .i64 g0.rg, .slice (some ⟨cb, co, none⟩) (mc + 1) cc] 39))
              clear hend w1 w2
              go_wp2_with fail
              go_roundg g
              case rel => exact ⟨j + 1, by omega, by go_num, HE2.out, HZ⟩
              case measure => exact Nat.lt_succ_self _
          · have v1 : (x != 27) = false := by simpa using w1
            have HZ : Hid ((p.ps.take (j + 1)).all pOK = true) := by
              have e1 := of_decide_eq_false z1
              have e2 := of_decide_eq_false z2
              have e3 := of_decide_eq_false z3
              have e4 : decide (0 ≤ g0.pa) = true := decide_eq_true (by omega)
              have e5 : decide (g0.pa ≤ g0.rg) = true := decide_eq_true (by omega)
              have e6 : decide (g0.rg ≤ 500) = true := decide_eq_true (by omega)
              rw [HS.out, HA.out, pOK, prB, hend, e4, e5, e6, w1, Bool.or_true]; rfl
            have HE2 := Lib.hid (HE.out.alloc (.cells #[.int .i64 g0.pa, .int .i64 g0.rg, .slice (some ⟨cb, co, none⟩) (mc + 1) cc] 39))
            clear hend w1
            go_wp2_with fail
            go_roundg g
            case rel => exact ⟨j + 1, by omega, by go_num, HE2.out, HZ⟩
            case measure => exact Nat.lt_succ_self _
set_option maxRecDepth 100000 in
set_option maxHeartbeats 8000000 in
theorem rchk_toolong (p : Pg) (f0 : Pr) (tl : List Pr) (hp : p.ps = f0 :: tl) (vp vi vt : Value) (w : World) (h : Lies w vp vi vt p) (hs : Few p) (h0 : (f0.pa == 0) = true) (hz : ∀ s ∈ p.ts, s.size ≤ 9223372036854775807) (h1 : longB p.ts = true) :
    Calls Tryz.prog 8 #[.agg #[vp, vi, vt]] w fun e w' => e = .returned (.bool false) ∧ Ext w w' := by
  obtain ⟨q, c, rfl, hq⟩ := h.ps
  obtain ⟨b, o, rfl, hx⟩ := hq (by rw [hp]; simp)
  clear hq
  obtain ⟨qi, ci, rfl⟩ := h.is
  obtain ⟨qt, ct, rfl, hqt⟩ := h.ts
  clear hqt
  obtain ⟨n, hn⟩ : ∃ n, p.ps.length = n := ⟨_, rfl⟩
  obtain ⟨nt, hnt⟩ : ∃ n, p.ts.length = n := ⟨_, rfl⟩
  have n1 : 1 ≤ n := by rw [← hn, hp]; simp
  have n2 : n ≤ 1000 := by rw [← hn]; exact hs.np
  have nt2 : nt ≤ 1000 := by rw [← hnt]; exact hs.nt
  have ni2 : p.ni ≤ 1000 := hs.ni
  have c0 : w.cell? ⟨b, o, none⟩ = some (.int .i64 f0.pa) := by
    have := (hx 0 (by omega)).1
    simpa [hp] using this
  have lb := cell_lt c0
  simp only at lb
  have HX := Lib.hid hx
  have H := Lib.hid h
  clear hx h
  rw [hn, hnt] at H
  rw [hn, hnt]
  have HN := Lib.hid hn
  have HT := Lib.hid hnt
  clear hn hnt
  have d1 : decide ((n : Int) < 1) = false := decide_eq_false (by omega)
  have d2 : decide (1000 < (n : Int)) = false := decide_eq_false (by omega)
  have d3 : (f0.pa != 0) = false := by simpa using h0
  obtain ⟨m, hm⟩ : ∃ m, cntTo p.ps p.ps.length = m := ⟨_, rfl⟩
  have m2 : m ≤ 20000 := by
    have := hs.tot
    omega
  have cC := fun W (hE : Ext w W) => rcnt_any p.ps _ (.slice qi p.ni ci) (.slice qt nt ct) W (H.out.ps.ext hE) (Nat.le_trans hs.np (by omega)) hs.nc m hm
  have s1 : IntKind.i64.wrap ((m : Int) + (p.ni : Int)) = (m : Int) + (p.ni : Int) := IntWalk.i64_in _ (by omega)
  have s2 : IntKind.i64.wrap ((m : Int) + (p.ni : Int) + (nt : Int)) = (m : Int) + (p.ni : Int) + (nt : Int) := IntWalk.i64_in _ (by omega)
  have d4 : decide (65536 < (m : Int) + (p.ni : Int) + (nt : Int)) = false := decide_eq_false (by omega)
  clear hm
  go_enter Tryz.func8, Tryz.ntmps8
  go_wp2_with fail
  refine wp_region_ext (by kernel_rfl) (by kernel_rfl) ?_
  repeat (
    first
      | go_big_quiet_skip
      | (go_big_quiet_want
         go_big_quiet_op
         first
           | go_big_quiet_on
           | (apply Exists.intro
              refine ⟨fun wq hq => ?_, ?_⟩
              focus (
                have q1 := (Ext.cells hq).1
                have q2 := (Ext.cells hq).2
                first
                  | ((go_at_call 19; exact Calls.ext_of hq (cC _ (((Ext.refl w).alloc _).trans hq))); done)
                  | (go_simp; exact rfl))
              go_big_quiet_on)))
  refine wpQuiet_nil ?_
  intro we hwe
  clear cC s1 s2 d1 d2 d3 d4 m2 c0
  have k0 : Ext w we := ((Ext.refl w).alloc _).trans hwe
  have b0 := hwe.cell (a := ⟨w.heap.size, 0, none⟩) (v := .slice (some ⟨b, o, none⟩) n c) (by go_simp)
  have b1 := hwe.cell (a := ⟨w.heap.size, 1, none⟩) (v := (.slice qi p.ni ci)) (by go_simp)
  have b2 := hwe.cell (a := ⟨w.heap.size, 2, none⟩) (v := .slice qt nt ct) (by go_simp)
  clear hwe
  go_wp2_with fail
  have H1 := Lib.hid h1
  clear h1
  go_loopg [3] nt (fun g s3 wr => ∃ (k : Nat), k + g = nt ∧ s3 = .int .i64 k ∧ Ext we wr ∧ Hid (longB (p.ts.drop k) = true))
  case atStart => exact ⟨0, by omega, rfl, Ext.refl _, H1⟩
  case round =>
    obtain ⟨k, hkg, rfl, he, HK⟩ := hrel
    replace b0 := he.cell b0
    replace b1 := he.cell b1
    replace b2 := he.cell b2
    cases gk with
    | succ g =>
      have hkz : (k : Int) < (nt : Int) := by omega
      have hkl : k < p.ts.length := by rw [HT.out]; omega
      obtain ⟨qq, cc, hqe, hqt⟩ := H.out.ts
      cases hqe
      obtain ⟨tb, tof, rfl, hct⟩ := hqt (by omega)
      have c1 := he.cell (k0.cell (hct k hkl))
      have hs1 := hz _ (List.getElem_mem hkl)
      have HD := Lib.hid (any_split p.ts k hkl)
      obtain ⟨s0, hs0⟩ : ∃ s0, p.ts[k] = s0 := ⟨_, rfl⟩
      rw [hs0] at c1 HD hs1
      clear hs0 hct hqt hkl
      have HE := Lib.hid he
      have HE2 := Lib.hid (k0.trans he)
      clear he
      cases dz : decide (1048576 < (s0.size : Int))
      · have HZ : Hid (longB (p.ts.drop (k + 1)) = true) := by have := HD.out; rw [HK.out, dz] at this; exact this.symm
        go_wp2_with fail
        go_roundg g
        case rel => exact ⟨k + 1, by omega, by go_num, HE.out, HZ⟩
        case measure => exact Nat.lt_succ_self _
      · go_wp2_with fail
        go_ret
        exact ⟨rfl, HE2.out⟩
    | zero =>
      have := HK.out
      rw [List.drop_eq_nil_of_le (by rw [HT.out]; omega)] at this
      cases this
set_option maxRecDepth 100000 in
set_option maxHeartbeats 8000000 in
theorem rchk_good (p : Pg) (f0 : Pr) (tl : List Pr) (hp : p.ps = f0 :: tl) (vp vi vt : Value) (w : World) (h : Lies w vp vi vt p) (hs : Sm p) (h0 : (f0.pa == 0) = true) (h1 : p.ps.all pOK = true) :
    Calls Tryz.prog 8 #[.agg #[vp, vi, vt]] w fun e w' => e = .returned (.bool (p.ps.all (iOK p))) ∧ Ext w w' := by
  obtain ⟨q, c, rfl, hq⟩ := h.ps
  obtain ⟨b, o, rfl, hx⟩ := hq (by rw [hp]; simp)
  clear hq
  obtain ⟨qi, ci, rfl⟩ := h.is
  obtain ⟨qt, ct, rfl, hqt⟩ := h.ts
  clear hqt
  obtain ⟨n, hn⟩ : ∃ n, p.ps.length = n := ⟨_, rfl⟩
  obtain ⟨nt, hnt⟩ : ∃ n, p.ts.length = n := ⟨_, rfl⟩
  have n1 : 1 ≤ n := by rw [← hn, hp]; simp
  have n2 : n ≤ 1000 := by rw [← hn]; exact hs.np
  have nt2 : nt ≤ 1000 := by rw [← hnt]; exact hs.nt
  have ni2 : p.ni ≤ 1000 := hs.ni
  have c0 : w.cell? ⟨b, o, none⟩ = some (.int .i64 f0.pa) := by
    have := (hx 0 (by omega)).1
    simpa [hp] using this
  have lb := cell_lt c0
  simp only at lb
  have HX := Lib.hid hx
  have H := Lib.hid h
  clear hx h
  rw [hn, hnt] at H
  rw [hn, hnt]
  have HN := Lib.hid hn
  have HT := Lib.hid hnt
  clear hn hnt
  have d1 : decide ((n : Int) < 1) = false := decide_eq_false (by omega)
  have d2 : decide (1000 < (n : Int)) = false := decide_eq_false (by omega)
  have d3 : (f0.pa != 0) = false := by simpa using h0
  obtain ⟨m, hm⟩ : ∃ m, cntTo p.ps p.ps.length = m := ⟨_, rfl⟩
  have m2 : m ≤ 20000 := by
    have := hs.tot
    omega
  have cC := fun W (hE : Ext w W) => rcnt_any p.ps _ (.slice qi p.ni ci) (.slice qt nt ct) W (H.out.ps.ext hE) (Nat.le_trans hs.np (by omega)) hs.nc m hm
  have s1 : IntKind.i64.wrap ((m : Int) + (p.ni : Int)) = (m : Int) + (p.ni : Int) := IntWalk.i64_in _ (by omega)
  have s2 : IntKind.i64.wrap ((m : Int) + (p.ni : Int) + (nt : Int)) = (m : Int) + (p.ni : Int) + (nt : Int) := IntWalk.i64_in _ (by omega)
  have d4 : decide (65536 < (m : Int) + (p.ni : Int) + (nt : Int)) = false := decide_eq_false (by omega)
  clear hm
  go_enter Tryz.func8, Tryz.ntmps8
  go_wp2_with fail
  refine wp_region_ext (by kernel_rfl) (by kernel_rfl) ?_
  repeat (
    first
      | go_big_quiet_skip
      | (go_big_quiet_want
         go_big_quiet_op
         first
           | go_big_quiet_on
           | (apply Exists.intro
              refine ⟨fun wq hq => ?_, ?_⟩
              focus (
                have q1 := (Ext.cells hq).1
                have q2 := (Ext.cells hq).2
                first
                  | ((go_at_call 19; exact Calls.ext_of hq (cC _ (((Ext.refl w).alloc _).trans hq))); done)
                  | (go_simp; exact rfl))
              go_big_quiet_on)))
  refine wpQuiet_nil ?_
  intro we hwe
  clear cC s1 s2 d1 d2 d3 d4 m2 c0
  have k0 : Ext w we := ((Ext.refl w).alloc _).trans hwe
  have b0 := hwe.cell (a := ⟨w.heap.size, 0, none⟩) (v := .slice (some ⟨b, o, none⟩) n c) (by go_simp)
  have b1 := hwe.cell (a := ⟨w.heap.size, 1, none⟩) (v := (.slice qi p.ni ci)) (by go_simp)
  have b2 := hwe.cell (a := ⟨w.heap.size, 2, none⟩) (v := .slice qt nt ct) (by go_simp)
  clear hwe
  go_wp2_with fail
  go_loopg [3] nt (fun g s3 wr => ∃ (k : Nat), k + g = nt ∧ s3 = .int .i64 k ∧ Ext we wr)
  case atStart => exact ⟨0, by omega, rfl, Ext.refl _⟩
  case round =>
    obtain ⟨k, hkg, rfl, he⟩ := hrel
    replace b0 := he.cell b0
    replace b1 := he.cell b1
    replace b2 := he.cell b2
    cases gk with
    | succ g =>
      have hkz : (k : Int) < (nt : Int) := by omega
      have hkl : k < p.ts.length := by rw [HT.out]; omega
      obtain ⟨qq, cc, hqe, hqt⟩ := H.out.ts
      cases hqe
      obtain ⟨tb, tof, rfl, hct⟩ := hqt (by omega)
      have c1 := he.cell (k0.cell (hct k hkl))
      have hz := hs.sz _ (List.getElem_mem hkl)
      obtain ⟨s0, hs0⟩ : ∃ s0, p.ts[k] = s0 := ⟨_, rfl⟩
      rw [hs0] at c1 hz
      clear hs0 hct hqt hkl
      have dz : decide (1048576 < (s0.size : Int)) = false := decide_eq_false (by omega)
      have HE := Lib.hid he
      clear he
      go_wp2_with fail
      go_roundg g
      case rel => exact ⟨k + 1, by omega, by go_num, HE.out⟩
      case measure => exact Nat.lt_succ_self _
    | zero =>
      obtain rfl : k = nt := by omega
      have hkz : ¬ ((k : Int) < (k : Int)) := by omega
      replace k0 := k0.trans he
      clear he
      obtain ⟨wb, rfl⟩ : ∃ wb : World, wb = wr := ⟨_, rfl⟩
      go_wp2_with fail
      go_loopg [4] n (fun g s4 wr => ∃ (j : Nat), j + g = n ∧ s4 = .int .i64 j ∧ Ext wb wr)
      case atStart => exact ⟨0, by omega, rfl, Ext.refl _⟩
      case round =>
        obtain ⟨j, hjg, rfl, he⟩ := hrel
        cases gk with
        | succ g =>
          have hjz : (j : Int) < (n : Int) := by omega
          have hjl : j < p.ps.length := by rw [HN.out]; omega
          obtain ⟨q1, cc, c1, c2, c3, c4⟩ := proto_at HX.out j hjl
          replace c1 := he.cell (k0.cell c1)
          replace c2 := he.cell (k0.cell c2)
          replace c3 := he.cell (k0.cell c3)
          replace c4 := c4.ext (k0.trans he)
          replace b0 := he.cell b0
          replace k0 := k0.trans he
          have HS := Lib.hid (all_take p.ps pOK j hjl)
          have hln := hs.nc _ (List.getElem_mem hjl)
          have hgk : pOK p.ps[j] = true := by rw [List.all_eq_true] at h1; exact h1 _ (List.getElem_mem hjl)
          obtain ⟨g0, hg0⟩ : ∃ g0, p.ps[j] = g0 := ⟨_, rfl⟩
          rw [hg0] at c1 c2 c3 c4 HS hln hgk
          clear hg0 hjl b1 b2
          have HE := Lib.hid he
          have C4 := Lib.hid c4
          clear he c4
          have lb1 := cell_lt c1
          have lb0 := cell_lt b0
          simp only at lb1 lb0
          simp only [pOK, prB, Bool.and_eq_true, decide_eq_true_eq] at hgk
          obtain ⟨⟨⟨z1, z2⟩, z3⟩, hen⟩ := hgk
          have y1 : decide (g0.pa < 0) = false := decide_eq_false (by omega)
          have y2 : decide (g0.rg < g0.pa) = false := decide_eq_false (by omega)
          have y3 : decide (500 < g0.rg) = false := decide_eq_false (by omega)
          have z4 : 0 < g0.cd.length := by
            rcases Nat.eq_zero_or_pos g0.cd.length with z4 | z4
            · rw [List.eq_nil_of_length_eq_zero z4] at hen; cases hen
            · exact z4
          obtain ⟨mc, hmc⟩ : ∃ mc, g0.cd.length = mc + 1 := ⟨g0.cd.length - 1, by omega⟩
          obtain ⟨q2, c5, he5, hq5⟩ := C4.out
          cases he5
          obtain ⟨cb, co, rfl, hc5⟩ := hq5 (by omega)
          have y0 := (hc5 mc (by omega)).1
          have hend := end_last g0.cd mc hmc
          obtain ⟨x, hx'⟩ : ∃ x, (g0.cd[mc]'(by omega)).op = x := ⟨_, rfl⟩
          rw [hx'] at y0 hend
          clear hx' hc5 hq5
          rw [hmc] at c3 hln
          have hz4 : ((((mc + 1 : Nat)) : Int) == 0) = false := by simp; omega
          have ly := cell_lt y0
          simp only at ly
          clear C4
          have HM := Lib.hid hmc
          clear hmc
          rw [hen] at hend
          have HE2 := Lib.hid (HE.out.alloc (.cells #[.int .i64 g0.pa, .int .i64 g0.rg, .slice (some ⟨cb, co, none⟩) (mc + 1) cc] 39))
          clear hen
          cases w1 : (x == 27)
          · cases w2 : (x == 34)
            · cases w3 : (x == 35)
              · rw [w1, w2, w3] at hend; cases hend
              · have v1 : (x != 27) = true := by simpa using w1
                have v2 : (x != 34) = true := by simpa using w2
                have v3 : (x != 35) = false := by simpa using w3
                clear hend w1 w2 w3
                go_wp2_with fail
                go_roundg g
                case rel => exact ⟨j + 1, by omega, by go_num, HE2.out⟩
                case measure => exact Nat.lt_succ_self _
            · have v1 : (x != 27) = true := by simpa using w1
              have v2 : (x != 34) = false := by simpa using w2
              clear hend w1 w2
              go_wp2_with fail
              go_roundg g
              case rel => exact ⟨j + 1, by omega, by go_num, HE2.out⟩
              case measure => exact Nat.lt_succ_self _
          · have v1 : (x != 27) = false := by simpa using w1
            clear hend w1
            go_wp2_with fail
            go_roundg g
            case rel => exact ⟨j + 1, by omega, by go_num, HE2.out⟩
            case measure => exact Nat.lt_succ_self _
        | zero =>
          obtain rfl : j = n := by omega
          have hjz : ¬ ((j : Int) < (j : Int)) := by omega
          replace b0 := he.cell b0
          replace b1 := he.cell b1
          replace b2 := he.cell b2
          replace k0 := k0.trans he
          clear he
          have hpr := Lib.hid (pok_prb h1)
          clear h1
          obtain ⟨wc, rfl⟩ : ∃ wc : World, wc = wr := ⟨_, rfl⟩
          go_wp2_with fail
          go_loopg [8] j (fun g s8 wr => ∃ (i : Nat), i + g = j ∧ s8 = .int .i64 i ∧ Ext wc wr ∧ Hid ((p.ps.take i).all (iOK p) = true))
          case atStart => exact ⟨0, by omega, rfl, Ext.refl _, rfl⟩
          case round =>
            obtain ⟨i, hig, rfl, he, HA⟩ := hrel
            cases gk with
            | zero =>
              obtain rfl : i = j := by omega
              have HZ : Hid (p.ps.all (iOK p) = true) := by rw [← HA.out, List.take_of_length_le (by rw [HN.out]; exact Nat.le_refl _)]; rfl
              replace b0 := he.cell b0
              replace k0 := k0.trans he
              clear he b1 b2
              go_wp2_with fail
              go_ret
              exact ⟨ret_of (bool_eq HZ.out.symm), k0⟩
            | succ g =>
              have hin : i < j := by omega
              have hiz : (i : Int) < (j : Int) := by omega
              have hil : i < p.ps.length := by rw [HN.out]; exact hin
              obtain ⟨q1, cc, c1, c2, c3, c4⟩ := proto_at HX.out i hil
              replace c1 := he.cell (k0.cell c1)
              replace c2 := he.cell (k0.cell c2)
              replace c3 := he.cell (k0.cell c3)
              replace c4 := c4.ext (k0.trans he)
              replace b0 := he.cell b0
              replace b1 := he.cell b1
              replace b2 := he.cell b2
              replace k0 := k0.trans he
              have HS := Lib.hid (all_take p.ps (iOK p) i hil)
              have HO := Lib.hid (all_no p.ps (iOK p) i hil)
              have hbd := Lib.hid (chk_bounds hpr.out _ (List.getElem_mem hil))
              have hln := hs.nc _ (List.getElem_mem hil)
              obtain ⟨g0, hg0⟩ : ∃ g0, p.ps[i] = g0 := ⟨_, rfl⟩
              rw [hg0] at c1 c2 c3 c4 HS HO hbd hln
              clear hg0 hil
              have HEO := Lib.hid he
              clear he
              have C4 := Lib.hid c4
              clear c4
              obtain ⟨mc, hmc⟩ : ∃ mc, g0.cd.length = mc := ⟨_, rfl⟩
              rw [hmc] at c3 hln
              have HM := Lib.hid hmc
              clear hmc
              obtain ⟨wd, rfl⟩ : ∃ wd : World, wd = wr := ⟨_, rfl⟩
              go_wp2_with fail
              go_loopg [9] mc (fun g9 s9 wx => ∃ (l : Nat), l + g9 = mc ∧ s9 = .int .i64 l ∧ Ext wd wx ∧ Hid ((g0.cd.take l).all (insB p g0) = true))
              case atStart => exact ⟨0, by omega, rfl, Ext.refl _, rfl⟩
              case round =>
                obtain ⟨l, hlg, rfl, he, HI⟩ := hrel
                replace b0 := he.cell b0
                replace b1 := he.cell b1
                replace b2 := he.cell b2
                replace c1 := he.cell c1
                replace c2 := he.cell c2
                replace c3 := he.cell c3
                cases gk with
                | zero =>
                  obtain rfl : l = mc := by omega
                  have hlz : ¬ ((l : Int) < (l : Int)) := by omega
                  have HZ : Hid ((p.ps.take (i + 1)).all (iOK p) = true) := by
                    have h3 : g0.cd.all (insB p g0) = true := by rw [← HI.out, List.take_of_length_le (by rw [HM.out]; exact Nat.le_refl _)]
                    rw [HS.out, HA.out, iOK, h3]; rfl
                  have HE2 := Lib.hid (HEO.out.trans he)
                  clear he
                  go_wp2_with fail
                  go_roundg g
                  case rel => exact ⟨i + 1, by omega, by go_num, HE2.out, HZ⟩
                  case measure => exact Nat.lt_succ_self _
                | succ g9 =>
                  have hlz : (l : Int) < (mc : Int) := by omega
                  have hll : l < g0.cd.length := by rw [HM.out]; omega
                  obtain ⟨q2, c5, he5, hq5⟩ := C4.out
                  have hmm := HM.out
                  cases he5
                  obtain ⟨cb, co, rfl, hc5⟩ := hq5 (by omega)
                  obtain ⟨y0, y1, y2, y3⟩ := hc5 l hll
                  replace y0 := he.cell y0
                  replace y1 := he.cell y1
                  replace y2 := he.cell y2
                  replace y3 := he.cell y3
                  have lb0 := cell_lt b0
                  have lc1 := cell_lt c1
                  have ly := cell_lt y0
                  simp only at lb0 lc1 ly
                  have LI := Lib.hid (H.out.ext (k0.trans he))
                  have CA := C4.out.ext he
                  rw [hmm] at CA
                  have CA' := Lib.hid CA
                  clear CA hc5 hq5
                  have HP := Lib.hid (all_take g0.cd (insB p g0) l hll)
                  have HQ := Lib.hid (all_no g0.cd (insB p g0) l hll)
                  obtain ⟨i0, hi0⟩ : ∃ i0, g0.cd[l] = i0 := ⟨_, rfl⟩
                  rw [hi0] at y0 y1 y2 y3 HP HQ
                  clear hi0 hll hmm
                  have HE3 := Lib.hid he
                  clear he
                  have cI := fun v hv W (hE : Ext wr W) => rinstr_any p g0 (.slice (some ⟨b, o, none⟩) j c) (.slice qi p.ni ci) (.slice qt k ct) (.slice (some ⟨cb, co, none⟩) mc cc) i0 v hv W (LI.out.ext hE) (CA'.out.ext hE) hbd.out (Nat.le_trans hs.np (by omega)) (Nat.le_trans hs.nt (by omega))
                  cases hins : insB p g0 i0
                  · have HZ : Hid (p.ps.all (iOK p) = false) := HO.out (by rw [iOK, HQ.out hins])
                    replace cI := cI false hins
                    clear hins
                    go_wp2_with fail
                    refine wp_region_ext (by kernel_rfl) (by kernel_rfl) ?_
                    repeat (
                      first
                        | go_big_quiet_skip
                        | (go_big_quiet_want
                           go_big_quiet_op
                           first
                             | go_big_quiet_on
                             | (apply Exists.intro
                                refine ⟨fun wq hq => ?_, ?_⟩
                                focus (
                                  have q1 := (Ext.cells hq).1
                                  have q2 := (Ext.cells hq).2
                                  first
                                    | ((go_at_call 20; exact Calls.ext_of hq (cI _ hq)); done)
                                    | (go_simp; exact rfl))
                                go_big_quiet_on)))
                    refine wpQuiet_nil ?_
                    intro w4 e4
                    have HE4 := Lib.hid (k0.trans (HE3.out.trans e4))
                    clear cI e4 y0 y1 y2 y3 c1 c2 c3 b0 b1 b2 lb0 lc1 ly k0
                    go_wp2_with fail
                    go_ret
                    exact ⟨ret_of (bool_eq HZ.out.symm), HE4.out⟩
                  · have HZ : Hid ((g0.cd.take (l + 1)).all (insB p g0) = true) := by rw [HP.out, HI.out, hins]; rfl
                    replace cI := cI true hins
                    clear hins
                    go_wp2_with fail
                    refine wp_region_ext (by kernel_rfl) (by kernel_rfl) ?_
                    repeat (
                      first
                        | go_big_quiet_skip
                        | (go_big_quiet_want
                           go_big_quiet_op
                           first
                             | go_big_quiet_on
                             | (apply Exists.intro
                                refine ⟨fun wq hq => ?_, ?_⟩
                                focus (
                                  have q1 := (Ext.cells hq).1
                                  have q2 := (Ext.cells hq).2
                                  first
                                    | ((go_at_call 20; exact Calls.ext_of hq (cI _ hq)); done)
                                    | (go_simp; exact rfl))
                                go_big_quiet_on)))
                    refine wpQuiet_nil ?_
                    intro w4 e4
                    have HE4 := Lib.hid (HE3.out.trans e4)
                    clear cI e4 y0 y1 y2 y3 c1 c2 c3 b0 b1 b2 lb0 lc1 ly k0
                    go_wp2_with fail
                    go_roundg g9
                    case rel => exact ⟨l + 1, by omega, by go_num, HE4.out, HZ⟩
                    case measure => exact Nat.lt_succ_self _
theorem rchk_any (p : Pg) (vp vi vt : Value) (v : Bool) (hv : chkP p = v) (w : World) (h : Lies w vp vi vt p) (hs : Few p) (hz : ∀ s ∈ p.ts, s.size ≤ 9223372036854775807) :
  Calls Tryz.prog 8 #[.agg #[vp, vi, vt]] w fun e w' => e = .returned (.bool v) ∧ Ext w w' := by
 subst hv
 cases hp : p.ps with
 | nil =>
  have e : chkP p = false := by simp [chkP, chkB, hp]
  rw [e]
  exact rchk_none vp vi vt w (hp ▸ h.ps)
 | cons f0 tl =>
  cases h0 : (f0.pa == 0)
  ·rw [chkP, chk_eq' p f0 tl hp, h0, Bool.false_and, Bool.false_and, Bool.and_false]
   exact rchk_head p f0 tl hp vp vi vt w h hs h0
  cases hl : longB p.ts
  rotate_left
  ·rw [chkP, hl]
   exact rchk_toolong p f0 tl hp vp vi vt w h hs h0 hz hl
  cases h1 : p.ps.all pOK
  ·rw [chkP, hl, chk_eq' p f0 tl hp, h0, h1]
   exact rchk_bad p f0 tl hp vp vi vt w h (sm_of hs hl) h0 h1
  ·rw [chkP, hl, chk_eq' p f0 tl hp, h0, h1]
   exact rchk_good p f0 tl hp vp vi vt w h (sm_of hs hl) h0 h1
end Go.Proofs.YtfjipoijbmmjcaaGreatDoor
