/- Of two numbers, of two texts, just one of below, same, above is so. -/
import Derived.Test.YtidjibghicejaaaDoorLawC
namespace Go.Proofs.YtidjibghicejaaaDoor
open Go.RowKit
set_option linter.unusedVariables false
set_option linter.unusedSimpArgs false

theorem less_self (l : List UInt8) : Op.bytesLess l l = false := by
  induction l with
  | nil => rfl
  | cons c l ih => simp [Op.bytesLess, ih]
/-- What the five operators of an order make of two values. -/
def OrdZ (a b : Vl) (lt eq gt : Bool) : Prop :=
  opZ ⟨#[60]⟩ 0 0 a b = (⟨1, b2i lt, ⟨#[]⟩⟩, ⟨#[]⟩, 0) ∧ opZ ⟨#[61, 61]⟩ 0 0 a b = (⟨1, b2i eq, ⟨#[]⟩⟩, ⟨#[]⟩, 0) ∧ opZ ⟨#[62]⟩ 0 0 a b = (⟨1, b2i gt, ⟨#[]⟩⟩, ⟨#[]⟩, 0)
  ∧ opZ ⟨#[60, 61]⟩ 0 0 a b = (⟨1, b2i (!gt), ⟨#[]⟩⟩, ⟨#[]⟩, 0) ∧ opZ ⟨#[62, 61]⟩ 0 0 a b = (⟨1, b2i (!lt), ⟨#[]⟩⟩, ⟨#[]⟩, 0)
def One (lt eq gt : Bool) : Prop := (lt = true ∧ eq = false ∧ gt = false) ∨ (lt = false ∧ eq = true ∧ gt = false) ∨ (lt = false ∧ eq = false ∧ gt = true)
theorem saT (a b : Vl) : saV true a b = ⟨1, b2i (sameB a b), sNone⟩ := by simp [saV]
theorem saF (a b : Vl) : saV false a b = ⟨1, b2i (!sameB a b), sNone⟩ := by simp [saV]
theorem ord_2 (n1 n2 : Int) (s1 s2 : ByteArray) (ca : Vl.ck ⟨2, n1, s1⟩ = true) (cb : Vl.ck ⟨2, n2, s2⟩ = true) : ∃ lt eq gt, One lt eq gt ∧ OrdZ ⟨2, n1, s1⟩ ⟨2, n2, s2⟩ lt eq gt := by
  have e1 : s1.toList = [] := by simpa [Vl.ck, checkB] using ca
  have e2 : s2.toList = [] := by simpa [Vl.ck, checkB] using cb
  obtain ⟨o0, o1, o2, o3⟩ := ordI_all n1 n2
  obtain ⟨p, q⟩ := orV_int 0 ⟨2, n1, s1⟩ ⟨2, n2, s2⟩ ⟨rfl, rfl⟩
  obtain ⟨p1, _⟩ := orV_int 1 ⟨2, n1, s1⟩ ⟨2, n2, s2⟩ ⟨rfl, rfl⟩
  obtain ⟨p2, _⟩ := orV_int 2 ⟨2, n1, s1⟩ ⟨2, n2, s2⟩ ⟨rfl, rfl⟩
  obtain ⟨p3, _⟩ := orV_int 3 ⟨2, n1, s1⟩ ⟨2, n2, s2⟩ ⟨rfl, rfl⟩
  have se : sameB ⟨2, n1, s1⟩ ⟨2, n2, s2⟩ = (n1 == n2) := by
    rw [Bool.eq_iff_iff]; simp [sameB, e1, e2]
  refine ⟨decide (n1 < n2), n1 == n2, (!decide (n1 < n2) && !(n1 == n2)), ?_, ?_, ?_, ?_, ?_, ?_⟩
  · unfold One
    by_cases h1 : n1 < n2
    · have : (n1 == n2) = false := by simp; omega
      simp [h1, this]
    · by_cases h2 : n1 = n2 <;> simp [h2, h1]
  · rw [opZ_5, opA_yes ca cb]; simp only [opR, p, q, o0]; rfl
  · rw [opZ_9, opA_yes ca cb]; simp only [opR, saT, se]; rfl
  · rw [opZ_7, opA_yes ca cb]; simp only [opR, p2, q, o2]; rfl
  · rw [opZ_6, opA_yes ca cb]; simp only [opR, p1, q, o1, Bool.not_and, Bool.not_not]; rfl
  · rw [opZ_8, opA_yes ca cb]; simp only [opR, p3, q, o3]; rfl
theorem ord_3 (n1 n2 : Int) (s1 s2 : ByteArray) (ca : Vl.ck ⟨3, n1, s1⟩ = true) (cb : Vl.ck ⟨3, n2, s2⟩ = true) : ∃ lt eq gt, One lt eq gt ∧ OrdZ ⟨3, n1, s1⟩ ⟨3, n2, s2⟩ lt eq gt := by
  have e1 : n1 = 0 := by have := ca; simp [Vl.ck, checkB] at this; exact this.1
  have e2 : n2 = 0 := by have := cb; simp [Vl.ck, checkB] at this; exact this.1
  obtain ⟨o0, o1, o2, o3⟩ := ordS_all s1 s2
  obtain ⟨p, q⟩ := orV_str 0 ⟨3, n1, s1⟩ ⟨3, n2, s2⟩ ⟨rfl, rfl⟩
  obtain ⟨p1, _⟩ := orV_str 1 ⟨3, n1, s1⟩ ⟨3, n2, s2⟩ ⟨rfl, rfl⟩
  obtain ⟨p2, _⟩ := orV_str 2 ⟨3, n1, s1⟩ ⟨3, n2, s2⟩ ⟨rfl, rfl⟩
  obtain ⟨p3, _⟩ := orV_str 3 ⟨3, n1, s1⟩ ⟨3, n2, s2⟩ ⟨rfl, rfl⟩
  have se : sameB ⟨3, n1, s1⟩ ⟨3, n2, s2⟩ = (s1.toList == s2.toList) := by
    rw [Bool.eq_iff_iff]; simp [sameB, e1, e2]
  refine ⟨lessS s1 s2, s1.toList == s2.toList, (!lessS s1 s2 && !(s1.toList == s2.toList)), ?_, ?_, ?_, ?_, ?_, ?_⟩
  · unfold One
    by_cases h2 : s1.toList = s2.toList
    · have : lessS s1 s2 = false := by unfold lessS; rw [h2]; exact less_self _
      simp [h2, this]
    · have h3 : (s1.toList == s2.toList) = false := by simpa using h2
      rw [h3]
      cases lessS s1 s2 <;> simp
  · rw [opZ_5, opA_yes ca cb]; simp only [opR, p, q, o0]; rfl
  · rw [opZ_9, opA_yes ca cb]; simp only [opR, saT, se]; rfl
  · rw [opZ_7, opA_yes ca cb]; simp only [opR, p2, q, o2]; rfl
  · rw [opZ_6, opA_yes ca cb]; simp only [opR, p1, q, o1, Bool.not_and, Bool.not_not]; rfl
  · rw [opZ_8, opA_yes ca cb]; simp only [opR, p3, q, o3]; rfl
/-- What the three operators make of two values that have no order. -/
theorem ord_bad (a b : Vl) (h : a.ck = false ∨ b.ck = false) : opZ ⟨#[60]⟩ 0 0 a b = (.zero, sType, 0) ∧ opZ ⟨#[61, 61]⟩ 0 0 a b = (.zero, sType, 0) ∧ opZ ⟨#[62]⟩ 0 0 a b = (.zero, sType, 0) := by
  rw [opZ_5, opZ_7, opZ_9]
  rcases h with h | h
  · simp only [opA_no1 h, and_self]
  · simp only [opA_no2 h, and_self]
theorem ord_odd (a b : Vl) (ca : a.ck = true) (cb : b.ck = true) (h : ¬ (a.k = 2 ∧ b.k = 2)) (h' : ¬ (a.k = 3 ∧ b.k = 3)) : ∃ v, opZ ⟨#[60]⟩ 0 0 a b = (.zero, sType, 0) ∧ opZ ⟨#[61, 61]⟩ 0 0 a b = (v, ⟨#[]⟩, 0) ∧ opZ ⟨#[62]⟩ 0 0 a b = (.zero, sType, 0) := by
  rw [opZ_5, opZ_7, opZ_9]
  obtain ⟨p, q⟩ := orV_no 0 a b h h'
  obtain ⟨p2, _⟩ := orV_no 2 a b h h'
  simp only [opA_yes ca cb, opR, p, q, p2, and_self, true_and, and_true]
  exact ⟨_, rfl⟩
end Go.Proofs.YtidjibghicejaaaDoor
