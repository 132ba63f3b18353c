/- May an instruction be: the reference's answer is the code's. -/
import Derived.Test.YtifabbjgbfpfbaaDoorRin1
import Derived.Test.YtifabbjgbfpfbaaDoorRin2
import Derived.Test.YtifabbjgbfpfbaaDoorRin3
import Derived.Test.YtifabbjgbfpfbaaDoorRin4
namespace Go.Proofs.YtifabbjgbfpfbaaDoor
open Go.RowKit
set_option linter.unusedVariables false
set_option linter.unusedSimpArgs false

theorem rinstr_any (p : Pg) (f : Pr) (vp vi vt cv : Value) (i : Ins) (v : Bool) (hv : insB p f i = v) (w : World) (h : Lies w vp vi vt p) (hc : CodeAt w cv f.cd) (hb : Bounds p f) (n1 : p.ps.length ≤ 1000) (n2 : p.ts.length ≤ 1000) :
    Calls Tryd.prog 19 #[.agg #[vp, vi, vt], .agg #[.int .i64 f.pa, .int .i64 f.rg, cv], insV i] w fun e w' => e = .returned (.bool v) ∧ Ext w w' := by
  obtain ⟨qp, cp, rfl, hp⟩ := h.ps
  obtain ⟨qi, ci, rfl⟩ := h.is
  obtain ⟨qt, ct, rfl, ht⟩ := h.ts
  obtain ⟨qc, cc, rfl, _⟩ := hc
  obtain ⟨op, a, b, c⟩ := i
  obtain ⟨r0, r1, _⟩ := hb
  by_cases hlo : op < 1
  · exact rin_lo _ _ _ _ op f a b c w hlo v (by rw [← hv]; simp only [insB, show decide (1 ≤ op) = false from decide_eq_false (by omega), Bool.false_and])
  by_cases hhi : 35 < op
  · exact rin_hi _ _ _ _ op f a b c w hhi v (by rw [← hv]; simp only [insB, show decide (op ≤ 35) = false from decide_eq_false (by omega), Bool.false_and, Bool.and_false])
  by_cases hmid : 10 ≤ op ∧ op ≤ 23
  · exact rin_mid _ _ _ _ op f a b c w hmid.1 hmid.2 v (by
      rw [← hv]
      have e1 : ka op = 1 := by unfold ka; repeat' split <;> omega
      have e2 : kb op = 1 := by unfold kb; repeat' split <;> omega
      have e3 : kc op = 1 := by unfold kc; repeat' split <;> omega
      have e4 : extra p f ⟨op, a, b, c⟩ = true := by
        unfold extra
        simp only
        repeat' split
        all_goals first | rfl | (exfalso; omega)
      simp only [insB, e1, e2, e3, e4, show decide (1 ≤ op) = true from decide_eq_true (by omega), show decide (op ≤ 35) = true from decide_eq_true (by omega)]
      simp [opd])
  have hk : op = 1 ∨ op = 2 ∨ op = 3 ∨ op = 4 ∨ op = 5 ∨ op = 6 ∨ op = 7 ∨ op = 8 ∨ op = 9 ∨ op = 24 ∨ op = 25 ∨ op = 26 ∨ op = 27 ∨ op = 28 ∨ op = 29 ∨ op = 30 ∨ op = 31 ∨ op = 32 ∨ op = 33 ∨ op = 34 ∨ op = 35 := by omega
  clear hlo hhi hmid
  rcases hk with rfl | rfl | rfl | rfl | rfl | rfl | rfl | rfl | rfl | rfl | rfl | rfl | rfl | rfl | rfl | rfl | rfl | rfl | rfl | rfl | rfl
  · exact rin_1 _ _ _ _ f a b c w v (by rw [← hv, Bool.eq_iff_iff]; simp [insB, opd, ka, kb, kc, extra]; try omega)
  · exact rin_2 _ _ _ _ f a b c w v (by rw [← hv, Bool.eq_iff_iff]; simp [insB, opd, ka, kb, kc, extra]; try omega)
  · exact rin_3 _ _ _ _ f a b c w v (by rw [← hv, Bool.eq_iff_iff]; simp [insB, opd, ka, kb, kc, extra]; try omega)
  · exact rin_4 _ _ _ qi p.ni ci f a b c w v (by rw [← hv, Bool.eq_iff_iff]; simp [insB, opd, ka, kb, kc, extra]; try omega)
  · exact rin_5 _ _ _ qt p.ts.length ct f a b c w v (by rw [← hv, Bool.eq_iff_iff]; simp [insB, opd, ka, kb, kc, extra]; try omega)
  · exact rin_6 _ _ _ _ f a b c w v (by rw [← hv, Bool.eq_iff_iff]; simp [insB, opd, ka, kb, kc, extra]; try omega)
  · exact rin_7 _ _ _ _ f a b c w v (by rw [← hv, Bool.eq_iff_iff]; simp [insB, opd, ka, kb, kc, extra]; try omega)
  · exact rin_8 _ _ _ _ f a b c w v (by rw [← hv, Bool.eq_iff_iff]; simp [insB, opd, ka, kb, kc, extra]; try omega)
  · exact rin_9 _ _ _ _ f a b c w v (by rw [← hv, Bool.eq_iff_iff]; simp [insB, opd, ka, kb, kc, extra]; try omega)
  · exact rin_24 _ _ _ _ f a b c w v (by rw [← hv, Bool.eq_iff_iff]; simp [insB, opd, ka, kb, kc, extra]; try omega)
  · exact rin_25 _ _ _ _ f a b c w v (by rw [← hv, Bool.eq_iff_iff]; simp [insB, opd, ka, kb, kc, extra]; try omega)
  · exact rin_26 _ _ _ _ f a b c w v (by rw [← hv, Bool.eq_iff_iff]; simp [insB, opd, ka, kb, kc, extra]; try omega)
  · exact rin_27 _ _ _ qc f.cd.length cc f a b c w v (by rw [← hv, Bool.eq_iff_iff]; simp [insB, opd, ka, kb, kc, extra]; try omega)
  · exact rin_28 _ _ _ qc f.cd.length cc f a b c w v (by rw [← hv, Bool.eq_iff_iff]; simp [insB, opd, ka, kb, kc, extra]; try omega)
  · exact rin_29 _ _ _ qc f.cd.length cc f a b c w v (by rw [← hv, Bool.eq_iff_iff]; simp [insB, opd, ka, kb, kc, extra]; try omega)
  · exact rin_30 _ _ _ qc f.cd.length cc f a b c w r0 r1 v (by rw [← hv, Bool.eq_iff_iff]; simp [insB, opd, ka, kb, kc, extra]; try omega)
  · exact rin_31 _ _ _ qc f.cd.length cc f a b c w r0 r1 v (by rw [← hv, Bool.eq_iff_iff]; simp [insB, opd, ka, kb, kc, extra]; try omega)
  · refine rin_32 _ _ _ qp p.ps.length cp (p.ps.getD b.toNat ⟨0, 0, []⟩).pa f a b c w (by omega) ?_ r0 r1 v (by rw [← hv, Bool.eq_iff_iff]; simp [insB, opd, ka, kb, kc, extra]; try omega)
    intro hb0 hb1
    obtain ⟨j, rfl⟩ : ∃ j : Nat, b = j := ⟨b.toNat, by have := of_decide_eq_true hb0; omega⟩
    have hj : j < p.ps.length := by have := of_decide_eq_true hb1; omega
    obtain ⟨pb, po, rfl, hx⟩ := hp (by omega)
    exact ⟨pb, po, rfl, j, rfl, by rw [(hx j hj).1]; simp [List.getD, hj]⟩
  · refine rin_33 _ _ _ qt p.ts.length ct (builtB (p.ts.getD b.toNat ⟨#[]⟩)) f a b c w (by omega) ?_ r0 r1 v (by
      rw [← hv, Bool.eq_iff_iff]
      obtain ⟨u, hu⟩ : ∃ u, builtB (p.ts.getD b.toNat ⟨#[]⟩) = u := ⟨_, rfl⟩
      simp only [insB, opd, ka, kb, kc, extra, hu]
      cases u <;> simp <;> omega)
    intro hb0 hb1
    obtain ⟨j, rfl⟩ : ∃ j : Nat, b = j := ⟨b.toNat, by have := of_decide_eq_true hb0; omega⟩
    have hj : j < p.ts.length := by have := of_decide_eq_true hb1; omega
    obtain ⟨pb, po, rfl, hx⟩ := ht (by omega)
    exact ⟨pb, po, rfl, j, p.ts[j], rfl, hx j hj, by simp [List.getD, hj]⟩
  · exact rin_34 _ _ _ _ f a b c w v (by rw [← hv, Bool.eq_iff_iff]; simp [insB, opd, ka, kb, kc, extra]; try omega)
  · exact rin_35 _ _ _ _ f a b c w v (by rw [← hv, Bool.eq_iff_iff]; simp [insB, opd, ka, kb, kc, extra]; try omega)
end Go.Proofs.YtifabbjgbfpfbaaDoor
