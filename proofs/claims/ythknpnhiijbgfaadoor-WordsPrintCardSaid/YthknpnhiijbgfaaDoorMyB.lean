/- Words: a word as a text, in the program; whether all words may be printed. -/
import Derived.Test.YthknpnhiijbgfaaDoorMyA
import Derived.Test.YthknpnhiijbgfaaDoorQuA
import Derived.Lib.ItoaMem
namespace Go.Proofs.YthknpnhiijbgfaaDoor
open Go.RowKit
set_option linter.unusedVariables false
set_option linter.unusedSimpArgs false

set_option maxRecDepth 100000 in
set_option maxHeartbeats 2000000 in
theorem told_any (w : World) (x : Wd) (hL : Laid w) (hm : x.k = 2 → 0 ≤ x.n) (hn : x.n ≤ 9223372036854775807) (ht : x.t.length ≤ 1048576) : Calls Tryd.prog 39 #[.agg #[.int .i64 x.k, .string ⟨x.t.toArray⟩, .int .i64 x.n, .int .i64 x.a]] w fun e w' => e = .returned (.string ⟨(toldP x).toArray⟩) ∧ Ext w w' := by
  obtain ⟨k, t, n, a⟩ := x
  have HL := Lib.hid hL
  clear hL
  obtain ⟨r, hr⟩ : ∃ r, toldP ⟨k, t, n, a⟩ = r := ⟨_, rfl⟩
  obtain ⟨T, hT⟩ : ∃ T : ByteArray, ⟨t.toArray⟩ = T := ⟨_, rfl⟩
  have hTt : T.data.toList = t := by rw [← hT]
  have hTs : T.size ≤ 1048576 := by rw [← hT]; exact ht
  rw [hr]
  dsimp only at hm hn ⊢
  rw [hT]
  have HR := Lib.hid hr
  have HT := Lib.hid hT
  have HTT := Lib.hid hTt
  clear hr hT hTt ht
  have HE0 : Hid (∀ o, Ext w (w.alloc o)) := Lib.hid fun o => (Ext.refl w).alloc o
  by_cases h2 : k = 2
  · subst h2
    have hn0 := hm rfl
    have HB : Hid (r = Lib.itoa n) := Lib.hid (by
      rw [← HR.out]
      obtain ⟨u, rfl⟩ : ∃ u : Nat, n = u := ⟨n.toNat, by omega⟩
      rw [Lib.itoa_nonneg]
      rfl)
    clear hm
    go_enter Tryd.func39, Tryd.ntmps39
    go_wp2_with fail
    refine (Tryd.strconv_FormatInt_10 n (by omega) hn _ (HL.out.pow.ext (HE0.out _))).mono ?_
    rintro e w1 ⟨rfl, k, os, rfl⟩
    go_wp2_with fail
    go_ret
    rw [HB.out]
    exact ⟨rfl, (HE0.out _).grow k os⟩
  · have g2 : (k == 2) = false := by rw [beq_eq_false_iff_ne]; exact h2
    by_cases h3 : k = 3
    · subst h3
      have HB : Hid (r = quoteP t) := Lib.hid (by rw [← HR.out]; rfl)
      clear hm h2 g2
      go_enter Tryd.func39, Tryd.ntmps39
      go_wp2_with fail
      refine (quote_any _ T hTs (HL.out.pow.ext (HE0.out _))).mono ?_
      rintro e w1 ⟨rfl, he⟩
      have HE := Lib.hid he
      clear he
      rw [HTT.out]
      go_wp2_with fail
      go_ret
      rw [HB.out]
      exact ⟨rfl, (HE0.out _).trans HE.out⟩
    · have g3 : (k == 3) = false := by rw [beq_eq_false_iff_ne]; exact h3
      have HB : Hid (r = t) := Lib.hid (by rw [← HR.out]; unfold toldP; rw [if_neg h2, if_neg h3])
      clear hm h2 h3
      go_enter Tryd.func39, Tryd.ntmps39
      go_wp2_with fail
      go_ret
      rw [HB.out, HT.out]
      exact ⟨rfl, HE0.out _⟩
set_option maxRecDepth 100000 in
theorem notmay_any (w : World) (x : Wd) (hL : Laid w) : Calls Tryd.prog 37 #[.agg #[.int .i64 x.k, .string ⟨x.t.toArray⟩, .int .i64 x.n, .int .i64 x.a]] w fun e w' => e = .returned (.bool (!mayP x)) ∧ Ext w w' := by
  have HL := Lib.hid hL
  clear hL
  go_enter Tryd.func37, Tryd.ntmps37
  go_wp2_with fail
  refine (may_any _ x (HL.out.ext ((Ext.refl w).alloc _))).mono ?_
  rintro e w1 ⟨rfl, he⟩
  have HE := Lib.hid he
  clear he
  go_wp2_with fail
  go_ret
  exact ⟨rfl, ((Ext.refl w).alloc _).trans HE.out⟩
/-- Words in a row of cells, wherever it lies. -/
def WordsAt (w : World) (v : Value) (ws : List Wd) : Prop :=
  ∃ (q : Option Addr) (c : Nat), v = .slice q ws.length c ∧ (0 < ws.length → ∃ b o, q = some ⟨b, o, none⟩ ∧ ∀ i (h : i < ws.length),
    w.cell? ⟨b, o + i * 4, none⟩ = some (.int .i64 ws[i].k) ∧ w.cell? ⟨b, o + i * 4 + 1, none⟩ = some (.string ⟨ws[i].t.toArray⟩) ∧ w.cell? ⟨b, o + i * 4 + 2, none⟩ = some (.int .i64 ws[i].n) ∧ w.cell? ⟨b, o + i * 4 + 3, none⟩ = some (.int .i64 ws[i].a))
theorem OwnW.at {w : World} {B : Nat} {v : Value} {ws : List Wd} (h : OwnW w B v ws) : WordsAt w v ws := by
  obtain ⟨q, c, rfl, hc⟩ := h.cells
  refine ⟨q, c, rfl, fun h0 => ?_⟩
  obtain ⟨g, rfl, _, hx⟩ := hc h0
  refine ⟨g, 0, rfl, fun i hi => ?_⟩
  rw [Nat.zero_add]
  exact hx i hi
theorem WordsAt.ext {w w' : World} {v : Value} {ws : List Wd} (h : WordsAt w v ws) (he : Ext w w') : WordsAt w' v ws := by
  obtain ⟨q, c, rfl, hc⟩ := h
  refine ⟨q, c, rfl, fun h0 => ?_⟩
  obtain ⟨b, o, rfl, hx⟩ := hc h0
  exact ⟨b, o, rfl, fun i hi => ⟨cell_of_ext (hx i hi).1 he, cell_of_ext (hx i hi).2.1 he, cell_of_ext (hx i hi).2.2.1 he, cell_of_ext (hx i hi).2.2.2 he⟩⟩
def firstNot (ws : List Wd) : Int := if ws.all mayP then -1 else (ws.findIdx fun x => !mayP x : Nat)
theorem all_drop (ws : List Wd) (k : Nat) (h : k < ws.length) : (ws.drop k).all mayP = (mayP ws[k] && (ws.drop (k + 1)).all mayP) := by
  rw [List.drop_eq_getElem_cons h, List.all_cons]
set_option maxRecDepth 100000 in
set_option maxHeartbeats 2000000 in
theorem index_may (w : World) (v : Value) (ws : List Wd) (hL : Laid w) (hv : WordsAt w v ws) (hlen : ws.length ≤ 9223372036854775806) : Calls Tryd.prog 52 #[v, .func (.func 37) #[] #[]] w fun e w' => (∃ i : Int, e = .returned (.int .i64 i) ∧ decide (0 ≤ i) = !ws.all mayP) ∧ Ext w w' := by
  obtain ⟨q, c, rfl, hx⟩ := hv
  have HX := Lib.hid hx
  have HL := Lib.hid hL
  obtain ⟨n, hn⟩ : ∃ n, ws.length = n := ⟨_, rfl⟩
  rw [hn] at hlen ⊢
  have HN := Lib.hid hn
  obtain ⟨r, hr⟩ : ∃ r, ws.all mayP = r := ⟨_, rfl⟩
  rw [hr]
  have HR := Lib.hid hr
  clear hx hL hn hr
  go_enter Tryd.func52, Tryd.ntmps52
  go_wp2_with fail
  go_loopw [8] (fun i wr => ∃ k : Nat, k ≤ n ∧ i = .int .i64 k ∧ Hid ((ws.drop k).all mayP = r) ∧ Hid (Ext w wr)) (fun i _ => n - (intOf i).toNat)
  case atStart => exact ⟨0, Nat.zero_le _, rfl, HR, Lib.hid (Ext.refl w)⟩
  case round =>
    obtain ⟨k, hk, rfl, HK, HE⟩ := hrel
    by_cases hlt : k < n
    · have kl : k < ws.length := by rw [HN.out]; exact hlt
      obtain ⟨b, o, rfl, hx⟩ := HX.out (by omega)
      have hxk := hx k kl
      have hd := all_drop ws k kl
      rw [HK.out] at hd
      obtain ⟨x, hx'⟩ : ∃ x, ws[k] = x := ⟨_, rfl⟩
      rw [hx'] at hxk hd
      have cx0 := cell_of_ext hxk.1 HE.out
      have cx1 := cell_of_ext hxk.2.1 HE.out
      have cx2 := cell_of_ext hxk.2.2.1 HE.out
      have cx3 := cell_of_ext hxk.2.2.2 HE.out
      have lx : b < wr.heap.size := by
        rcases Nat.lt_or_ge b wr.heap.size with h1 | h1
        · exact h1
        · simp [World.cell?, Array.getElem?_eq_none h1] at cx0
      have k0 : (0 : Int) ≤ (k : Int) := by omega
      have k1 : (k : Int) < (n : Int) := by omega
      have HD := Lib.hid hd
      clear hx hxk hx' kl hd
      go_wp2_with fail
      refine (notmay_any _ x (HL.out.ext HE.out)).mono ?_
      rintro e w1 ⟨rfl, he⟩
      have HE1 := Lib.hid (HE.out.trans he)
      clear he
      obtain ⟨m, hm⟩ : ∃ m, mayP x = m := ⟨_, rfl⟩
      rw [hm]
      have hd := HD.out
      rw [hm] at hd
      clear hm HD
      cases m
      · have hrr : r = false := hd
        clear hd
        subst hrr
        go_wp2_with fail
        go_ret
        exact ⟨⟨_, rfl, decide_eq_true (by omega)⟩, HE1.out⟩
      · have HD : Hid ((ws.drop (k + 1)).all mayP = r) := Lib.hid (by rw [hd, Bool.true_and])
        clear hd
        go_wp2_with fail
        go_roundw
        case rel => exact ⟨k + 1, hlt, by go_num, HD, HE1⟩
        case measure => simp [intOf]; omega
    · obtain rfl : k = n := by omega
      have hrr : r = true := by rw [← HK.out, List.drop_eq_nil_of_le (by rw [HN.out]; exact Nat.le_refl _)]; rfl
      subst hrr
      go_wp2_with fail
      go_ret
      exact ⟨⟨_, rfl, rfl⟩, HE.out⟩
set_option maxRecDepth 100000 in
theorem contains_may (w : World) (v : Value) (ws : List Wd) (hL : Laid w) (hv : WordsAt w v ws) (hlen : ws.length ≤ 9223372036854775806) : Calls Tryd.prog 36 #[v, .func (.func 37) #[] #[]] w fun e w' => e = .returned (.bool (!ws.all mayP)) ∧ Ext w w' := by
  have hi := index_may w v ws hL hv hlen
  have HI := Lib.hid hi
  clear hi hL hv
  go_enter Tryd.func36, Tryd.ntmps36
  go_wp2_with fail
  refine HI.out.mono ?_
  rintro e w1 ⟨⟨i, rfl, hi⟩, he⟩
  have HE := Lib.hid he
  have HB := Lib.hid hi
  clear he hi
  go_wp2_with fail
  go_ret
  exact ⟨ret_of (bool_eq HB.out), HE.out⟩
end Go.Proofs.YthknpnhiijbgfaaDoor
