/- WordsPrint's walk. -/
import Derived.Test.YthknpnhiijbgfaaDoorWzD
import Derived.Test.YthknpnhiijbgfaaDoorLxA
namespace Go.Proofs.YthknpnhiijbgfaaDoor
open Go.RowKit
set_option linter.unusedVariables false
set_option linter.unusedSimpArgs false

theorem told_small {x : Wd} (h : mayP x = true) (hn : x.n ≤ 9223372036854775807) : (toldP x).length ≤ 4 * x.t.length + 21 := by
  unfold toldP
  split
  · have := dec_len (n := x.n.toNat) (by omega)
    omega
  · split
    · have := quote_len x.t
      omega
    · omega
theorem sum_small : ∀ (ws : List Wd), ws.all mayP = true → (∀ x ∈ ws, x.n ≤ 9223372036854775807) → sumT ws ≤ 4 * sumX ws + 21 * ws.length
  | [], _, _ => by simp [sumT, sumX]
  | x :: ws, h, hn => by
    rw [List.all_cons, Bool.and_eq_true] at h
    have ih := sum_small ws h.2 (fun y hy => hn y (by simp [hy]))
    have h1 := told_small h.1 (hn x (by simp))
    unfold sumT sumX at ih ⊢
    simp only [List.map_cons, List.sum_cons, List.length_cons]
    omega
set_option maxRecDepth 100000 in
set_option maxHeartbeats 2000000 in
theorem law_print (w : World) (v : Value) (l : List Wd) (hL : Laid w) (hv : WordsAt w v l) (hlen : l.length ≤ 9223372036854775807) (hb : ∀ x ∈ l, x.t.length ≤ 140737488355328) (hi : ∀ x ∈ l, x.n ≤ 9223372036854775807) :
    Calls Tryd.prog 7 #[v] w fun e w' => e = .returned (.bool true) ∧ Ext w w' := by
  have HL := Lib.hid hL
  have HV := Lib.hid hv
  have HI := Lib.hid hi
  have H1 := Lib.hid (heavy_any w v l hv hb hlen)
  clear hL hv hb hlen hi
  go_enter Tryd.func7, Tryd.ntmps7
  go_wp2_with fail
  refine H1.out.mono ?_
  rintro e w1 ⟨⟨b, rfl, hl⟩, he⟩
  have HE1 := Lib.hid he
  have HA1 := Lib.hid hl
  clear he hl
  cases b
  · obtain ⟨hl1, hl2⟩ := HA1.out (by first | rfl | trivial)
    have ht : ∀ x ∈ l, x.t.length ≤ 1048576 := fun x hx => by
      have := sumX_mem l x hx
      omega
    cases hm : l.all mayP with
    | false =>
      have P1 := Lib.hid (print_not w1 v l (HL.out.ext HE1.out) (HV.out.ext HE1.out) (by omega) hm)
      have P2 := Lib.hid (fun W (hE : Ext w W) => rprint_not W v l (HV.out.ext hE) (by omega) hm)
      clear hl1 hl2 ht hm
      go_wp2_with fail
      refine P1.out.mono ?_
      rintro e w2 ⟨rfl, he⟩
      have HE2 := Lib.hid (HE1.out.trans he)
      clear he
      go_wp2_with fail
      refine (P2.out _ HE2.out).mono ?_
      rintro e w3 ⟨rfl, he⟩
      have HE3 := Lib.hid (HE2.out.trans he)
      clear he
      go_wp2_with fail
      refine (known_any w3 (HL.out.ext HE3.out)).mono ?_
      rintro e w6 ⟨rfl, he⟩
      have HE6 := Lib.hid (HE3.out.trans he)
      clear he
      go_wp2_with fail
      go_ret
      exact ⟨rfl, HE6.out⟩
    | true =>
      have hj : (joinP l).length ≤ 20000 := by
        have h1 := sum_small l hm HI.out
        have h2 := join_sum l
        omega
      obtain ⟨m, hlm, ham⟩ := lexS_join l hm HI.out
      have hml := lexS_len hlm
      have P1 := Lib.hid (print_any w1 v l (HL.out.ext HE1.out) (HV.out.ext HE1.out) (by omega) hm HI.out ht (by omega))
      have P2 := Lib.hid (fun W (hE : Ext w W) => rprint_any W v l (HL.out.pow.ext hE) (HV.out.ext hE) (by omega) hm HI.out ht (by omega))
      obtain ⟨q, hq⟩ : ∃ q : ByteArray, ⟨(joinP l).toArray⟩ = q := ⟨_, rfl⟩
      have hqs : q.size ≤ 20000 := by rw [← hq]; exact hj
      have hqd : q.data.toList = joinP l := by rw [← hq]
      rw [hq] at P1 P2
      have HQD := Lib.hid hqd
      have HLM := Lib.hid hlm
      have HAM := Lib.hid ham
      have hms : m.length ≤ 9223372036854775806 := by omega
      have hls : l.length ≤ 9223372036854775806 := by omega
      clear hl1 hl2 ht hm hj hlm ham hml hq hqd
      go_wp2_with fail
      refine P1.out.mono ?_
      rintro e w2 ⟨rfl, he⟩
      have HE2 := Lib.hid (HE1.out.trans he)
      clear he
      go_wp2_with fail
      refine (P2.out _ HE2.out).mono ?_
      rintro e w3 ⟨rfl, he⟩
      have HE3 := Lib.hid (HE2.out.trans he)
      clear he
      go_wp2_with fail
      refine (lex_any w3 q (by omega) (HL.out.ext HE3.out)).mono ?_
      rintro e w4 ⟨he, hr⟩
      have HE4 := Lib.hid (HE3.out.trans he)
      clear he
      rw [HQD.out, HLM.out] at hr
      simp only at hr
      obtain ⟨u, rfl, ho⟩ := hr
      have HS := Lib.hid (rsame_any w4 u v m l ho.at (HV.out.ext HE4.out) hms hls)
      clear ho
      go_wp2_with fail
      refine HS.out.mono ?_
      rintro e w5 ⟨rfl, he⟩
      have HE5 := Lib.hid (HE4.out.trans he)
      clear he
      rw [HAM.out]
      go_wp2_with fail
      refine (known_any w5 (HL.out.ext HE5.out)).mono ?_
      rintro e w6 ⟨rfl, he⟩
      have HE6 := Lib.hid (HE5.out.trans he)
      clear he
      go_wp2_with fail
      go_ret
      exact ⟨rfl, HE6.out⟩
  · go_wp2_with fail
    refine (known_any w1 (HL.out.ext HE1.out)).mono ?_
    rintro e w6 ⟨rfl, he⟩
    have HE6 := Lib.hid (HE1.out.trans he)
    clear he
    go_wp2_with fail
    go_ret
    exact ⟨rfl, HE6.out⟩
end Go.Proofs.YthknpnhiijbgfaaDoor
