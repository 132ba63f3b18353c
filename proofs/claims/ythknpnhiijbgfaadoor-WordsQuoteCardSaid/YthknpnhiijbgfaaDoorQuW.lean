/- WordsQuote's walk. -/
import Derived.Test.YthknpnhiijbgfaaDoorQuR
import Derived.Test.YthknpnhiijbgfaaDoorWdQ
namespace Go.Proofs.YthknpnhiijbgfaaDoor
open Go.RowKit
set_option linter.unusedVariables false
set_option linter.unusedSimpArgs false

set_option maxRecDepth 100000 in
set_option maxHeartbeats 1000000 in
theorem law_quote (w : World) (s : ByteArray) (hL : Laid w) : Calls Tryd.prog 6 #[.string s] w fun e w' => e = .returned (.bool true) ∧ Ext w w' := by
  have HL := Lib.hid hL
  clear hL
  by_cases h : 2000 < s.size
  · have d1 : decide ((2000 : Int) < (s.size : Int)) = true := decide_eq_true (by omega)
    have d1n : decide (2000 < s.size) = true := decide_eq_true h
    go_enter Tryd.func6, Tryd.ntmps6
    go_wp2_with fail
    refine (known_any _ HL.out).mono ?_
    rintro e w1 ⟨rfl, he⟩
    have HE := Lib.hid he
    clear he
    go_wp2_with fail
    go_ret
    exact ⟨rfl, HE.out⟩
  · have d1 : decide ((2000 : Int) < (s.size : Int)) = false := decide_eq_false (by omega)
    have d1n : decide (2000 < s.size) = false := decide_eq_false h
    obtain ⟨l, hl⟩ : ∃ l, s.data.toList = l := ⟨_, rfl⟩
    have hsl : l.length = s.size := by rw [← hl]; rfl
    have hql := quote_len l
    have hT : (⟨l.toArray⟩ : ByteArray) = s := by rw [← hl]
    have HLQ := Lib.hid (lex_quote l)
    obtain ⟨q, hq⟩ : ∃ q : ByteArray, ⟨(quoteP l).toArray⟩ = q := ⟨_, rfl⟩
    have hqs : q.size ≤ 8002 := by rw [← hq]; show (quoteP l).length ≤ 8002; omega
    have hqd : q.data.toList = quoteP l := by rw [← hq]
    have HQ := Lib.hid hq
    have HQD := Lib.hid hqd
    have HS := Lib.hid hl
    have HT := Lib.hid hT
    clear hl hql hq hqd hT
    go_enter Tryd.func6, Tryd.ntmps6
    go_wp2_with fail
    refine (quote_any _ s (by omega) HL.out.pow).mono ?_
    rintro e w1 ⟨rfl, he⟩
    have HE1 := Lib.hid he
    clear he
    rw [HS.out, HQ.out]
    go_wp2_with fail
    refine (lex_any _ q (by omega) (HL.out.ext HE1.out)).mono ?_
    rintro e w2 ⟨he, hr⟩
    have HE2 := Lib.hid he
    clear he
    rw [HQD.out, HLQ.out] at hr
    obtain ⟨v, rfl, ho⟩ := hr
    obtain ⟨qq, c, rfl, hc⟩ := ho.cells
    obtain ⟨g, rfl, _, hc⟩ := hc (by simp)
    have h0 := hc 0 (by simp)
    have HC0 : Hid (w2.cell? ⟨g, 0, none⟩ = some (.int .i64 3)) := Lib.hid h0.1
    have HC1 : Hid (w2.cell? ⟨g, 1, none⟩ = some (.string s)) := Lib.hid (by have h1 : w2.cell? ⟨g, 1, none⟩ = some (.string ⟨l.toArray⟩) := h0.2.1; rw [HT.out] at h1; exact h1)
    clear h0 hc ho
    simp only [List.length_cons, List.length_nil]
    go_wp2_with fail
    refine (rquote_any _ s (by omega)).mono ?_
    rintro e w3 ⟨rfl, he⟩
    have HE3 := Lib.hid he
    clear he
    rw [HS.out, HQ.out]
    have c0 := cell_of_ext HC0.out HE3.out
    have c1 := cell_of_ext HC1.out HE3.out
    go_wp2_with fail
    refine (known_any _ (((HL.out.ext HE1.out).ext HE2.out).ext HE3.out)).mono ?_
    rintro e w4 ⟨rfl, he⟩
    have HE4 := Lib.hid he
    clear he
    go_wp2_with fail
    go_ret
    exact ⟨rfl, ((HE1.out.trans HE2.out).trans HE3.out).trans HE4.out⟩
end Go.Proofs.YthknpnhiijbgfaaDoor
