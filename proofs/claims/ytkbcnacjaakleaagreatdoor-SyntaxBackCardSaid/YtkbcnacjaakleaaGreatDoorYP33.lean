/- Words: a word as a text, in the program; whether all words may be printed. Words: words as a text, in the program. tabor.tree.Parse: what is deferred. tabor.tree.Parse: its answers as they lie. -/
import Derived.Test.YtkbcnacjaakleaaGreatDoorYP32
import Derived.Lib.ItoaMem
import Derived.Test.YtkbcnacjaakleaaGreatDoorYScQ2
import Derived.Test.YtkbcnacjaakleaaGreatDoorYP28
import Derived.Recover
import Derived.Defers
set_option maxRecDepth 100000
set_option maxHeartbeats 32000000
set_option linter.unusedVariables false
set_option linter.unusedSimpArgs false
namespace Go.Proofs.YtkbcnacjaakleaaGreatDoor
open Go.RowKit

theorem told_any (w : World) (x : Wd) (hL : Laid w) (hm : x.k = 2 → 0 ≤ x.n) (hn : x.n ≤ 9223372036854775807) (ht : x.t.length ≤ 1048576) : Calls Tryz.prog 83 #[.agg #[.int .i64 x.k, .string ⟨x.t.toArray⟩, .int .i64 x.n, .int .i64 x.a]] w fun e w' => e = .returned (.string ⟨(toldP x).toArray⟩) ∧ Ext w w' := by
 obtain ⟨k, t, n, a⟩ := x
 have HL := Lib.hid hL
 clear hL
 obtain ⟨r, hr⟩ : ∃ r, toldP ⟨k, t, n, a⟩ = r := ⟨_, rfl⟩
 obtain ⟨T, hT⟩ : ∃ T : ByteArray, ⟨t.toArray⟩ = T := ⟨_, rfl⟩
 have hTt : T.data.toList = t := by rw [← hT]
 have hTs : T.size ≤ 1048576 := by rw [← hT]; exact ht
 rw [hr]
 dsimp only at hm hn ⊢
 rw [hT]
 have HR := Lib.hid hr
 have HT := Lib.hid hT
 have HTT := Lib.hid hTt
 clear hr hT hTt ht
 have HE0 : Hid (∀ o, Ext w (w.alloc o)) := Lib.hid fun o => (Ext.refl w).alloc o
 by_cases h2 : k = 2
 ·subst h2
  have hn0 := hm rfl
  have HB : Hid (r = Lib.itoa n) := Lib.hid (by
   rw [← HR.out]
   obtain ⟨u, rfl⟩ : ∃ u : Nat, n = u := ⟨n.toNat, by omega⟩
   rw [Lib.itoa_nonneg]
   rfl)
  clear hm
  go_enter Tryz.func83, Tryz.ntmps83
  go_wp2_with fail
  refine (Tryz.strconv_FormatInt_10 n (by omega) hn _ (HL.out.pow.ext (HE0.out _))).mono ?_
  rintro e w1 ⟨rfl, k, os, rfl⟩
  go_wp2_with fail
  go_ret
  rw [HB.out]
  exact ⟨rfl, (HE0.out _).grow k os⟩
 ·have g2 : (k == 2) = false := by rw [beq_eq_false_iff_ne]; exact h2
  by_cases h3 : k = 3
  ·subst h3
   have HB : Hid (r = quoteP t) := Lib.hid (by rw [← HR.out]; rfl)
   clear hm h2 g2
   go_enter Tryz.func83, Tryz.ntmps83
   go_wp2_with fail
   refine (quote_any _ T hTs (HL.out.pow.ext (HE0.out _))).mono ?_
   rintro e w1 ⟨rfl, he⟩
   have HE := Lib.hid he
   clear he
   rw [HTT.out]
   go_wp2_with fail
   go_ret
   rw [HB.out]
   exact ⟨rfl, (HE0.out _).trans HE.out⟩
  ·have g3 : (k == 3) = false := by rw [beq_eq_false_iff_ne]; exact h3
   have HB : Hid (r = t) := Lib.hid (by rw [← HR.out]; unfold toldP; rw [if_neg h2, if_neg h3])
   clear hm h2 h3
   go_enter Tryz.func83, Tryz.ntmps83
   go_wp2_with fail
   go_ret
   rw [HB.out, HT.out]
   exact ⟨rfl, HE0.out _⟩
theorem notmay_any (w : World) (x : Wd) (hL : Laid w) : Calls Tryz.prog 81 #[.agg #[.int .i64 x.k, .string ⟨x.t.toArray⟩, .int .i64 x.n, .int .i64 x.a]] w fun e w' => e = .returned (.bool (!mayP x)) ∧ Ext w w' := by
 have HL := Lib.hid hL
 clear hL
 go_enter Tryz.func81, Tryz.ntmps81
 go_wp2_with fail
 refine (may_any _ x (HL.out.ext ((Ext.refl w).alloc _))).mono ?_
 rintro e w1 ⟨rfl, he⟩
 have HE := Lib.hid he
 clear he
 go_wp2_with fail
 go_ret
 exact ⟨rfl, ((Ext.refl w).alloc _).trans HE.out⟩
def WordsAt (w : World) (v : Value) (ws : List Wd) : Prop :=
 ∃ (q : Option Addr) (c : Nat), v = .slice q ws.length c ∧ (0 < ws.length → ∃ b o, q = some ⟨b, o, none⟩ ∧ ∀ i (h : i < ws.length),
  w.cell? ⟨b, o + i * 4, none⟩ = some (.int .i64 ws[i].k) ∧ w.cell? ⟨b, o + i * 4 + 1, none⟩ = some (.string ⟨ws[i].t.toArray⟩) ∧ w.cell? ⟨b, o + i * 4 + 2, none⟩ = some (.int .i64 ws[i].n) ∧ w.cell? ⟨b, o + i * 4 + 3, none⟩ = some (.int .i64 ws[i].a))
theorem OwnW.at {w : World} {B : Nat} {v : Value} {ws : List Wd} (h : OwnW w B v ws) : WordsAt w v ws := by
 obtain ⟨q, c, rfl, hc⟩ := h.cells
 refine ⟨q, c, rfl, fun h0 => ?_⟩
 obtain ⟨g, rfl, _, hx⟩ := hc h0
 refine ⟨g, 0, rfl, fun i hi => ?_⟩
 rw [Nat.zero_add]
 exact hx i hi
theorem all_drop (ws : List Wd) (k : Nat) (h : k < ws.length) : (ws.drop k).all mayP = (mayP ws[k] && (ws.drop (k + 1)).all mayP) := by
 rw [List.drop_eq_getElem_cons h, List.all_cons]
theorem index_may (w : World) (v : Value) (ws : List Wd) (hL : Laid w) (hv : WordsAt w v ws) (hlen : ws.length ≤ 9223372036854775806) : Calls Tryz.prog 156 #[v, .func (.func 81) #[] #[]] w fun e w' => (∃ i : Int, e = .returned (.int .i64 i) ∧ decide (0 ≤ i) = !ws.all mayP) ∧ Ext w w' := by
 obtain ⟨q, c, rfl, hx⟩ := hv
 have HX := Lib.hid hx
 have HL := Lib.hid hL
 obtain ⟨n, hn⟩ : ∃ n, ws.length = n := ⟨_, rfl⟩
 rw [hn] at hlen ⊢
 have HN := Lib.hid hn
 obtain ⟨r, hr⟩ : ∃ r, ws.all mayP = r := ⟨_, rfl⟩
 rw [hr]
 have HR := Lib.hid hr
 clear hx hL hn hr
 go_enter Tryz.func156, Tryz.ntmps156
 go_wp2_with fail
 go_loopw [8] (fun i wr => ∃ k : Nat, k ≤ n ∧ i = .int .i64 k ∧ Hid ((ws.drop k).all mayP = r) ∧ Hid (Ext w wr)) (fun i _ => n - (intOf i).toNat)
 case atStart => exact ⟨0, Nat.zero_le _, rfl, HR, Lib.hid (Ext.refl w)⟩
 case round =>
  obtain ⟨k, hk, rfl, HK, HE⟩ := hrel
  by_cases hlt : k < n
  ·have kl : k < ws.length := by rw [HN.out]; exact hlt
   obtain ⟨b, o, rfl, hx⟩ := HX.out (by omega)
   have hxk := hx k kl
   have hd := all_drop ws k kl
   rw [HK.out] at hd
   obtain ⟨x, hx'⟩ : ∃ x, ws[k] = x := ⟨_, rfl⟩
   rw [hx'] at hxk hd
   have cx0 := cell_of_ext hxk.1 HE.out
   have cx1 := cell_of_ext hxk.2.1 HE.out
   have cx2 := cell_of_ext hxk.2.2.1 HE.out
   have cx3 := cell_of_ext hxk.2.2.2 HE.out
   have lx : b < wr.heap.size := by
    rcases Nat.lt_or_ge b wr.heap.size with h1 | h1
    ·exact h1
    ·simp [World.cell?, Array.getElem?_eq_none h1] at cx0
   have k0 : (0 : Int) ≤ (k : Int) := by omega
   have k1 : (k : Int) < (n : Int) := by omega
   have HD := Lib.hid hd
   clear hx hxk hx' kl hd
   go_wp2_with fail
   refine (notmay_any _ x (HL.out.ext HE.out)).mono ?_
   rintro e w1 ⟨rfl, he⟩
   have HE1 := Lib.hid (HE.out.trans he)
   clear he
   obtain ⟨m, hm⟩ : ∃ m, mayP x = m := ⟨_, rfl⟩
   rw [hm]
   have hd := HD.out
   rw [hm] at hd
   clear hm HD
   cases m
   ·have hrr : r = false := hd
    clear hd
    subst hrr
    go_wp2_with fail
    go_ret
    exact ⟨⟨_, rfl, decide_eq_true (by omega)⟩, HE1.out⟩
   ·have HD : Hid ((ws.drop (k + 1)).all mayP = r) := Lib.hid (by rw [hd, Bool.true_and])
    clear hd
    go_wp2_with fail
    go_roundw
    case rel => exact ⟨k + 1, hlt, by go_num, HD, HE1⟩
    case measure => simp [intOf]; omega
  ·obtain rfl : k = n := by omega
   have hrr : r = true := by rw [← HK.out, List.drop_eq_nil_of_le (by rw [HN.out]; exact Nat.le_refl _)]; rfl
   subst hrr
   go_wp2_with fail
   go_ret
   exact ⟨⟨_, rfl, rfl⟩, HE.out⟩
theorem contains_may (w : World) (v : Value) (ws : List Wd) (hL : Laid w) (hv : WordsAt w v ws) (hlen : ws.length ≤ 9223372036854775806) : Calls Tryz.prog 80 #[v, .func (.func 81) #[] #[]] w fun e w' => e = .returned (.bool (!ws.all mayP)) ∧ Ext w w' := by
 have hi := index_may w v ws hL hv hlen
 have HI := Lib.hid hi
 clear hi hL hv
 go_enter Tryz.func80, Tryz.ntmps80
 go_wp2_with fail
 refine HI.out.mono ?_
 rintro e w1 ⟨⟨i, rfl, hi⟩, he⟩
 have HE := Lib.hid he
 have HB := Lib.hid hi
 clear he hi
 go_wp2_with fail
 go_ret
 exact ⟨ret_of (bool_eq HB.out), HE.out⟩
theorem infoStr : (Tryz.prog.info? 9).map (fun i => (i.zero, i.size, i.bytes)) = some (some (.string ByteArray.empty), 1, 16) := by kernel_rfl
def OwnT (w : World) (B : Nat) (v : Value) (xs : List ByteArray) : Prop := w.ownsRow B 9 1 v xs.length (xs.map Value.string)
theorem OwnT.nil (w : World) (B : Nat) : OwnT w B (.slice none 0 0) [] := World.ownsRow_nil _ _ _ _
theorem OwnT.ext {w w' : World} {B : Nat} {v : Value} {xs : List ByteArray} (h : OwnT w B v xs) (he : Ext w w') : OwnT w' B v xs := own_ext h he
theorem OwnT.cell {w : World} {B g n c : Nat} {xs : List ByteArray} (h : OwnT w B (.slice (some ⟨g, 0, none⟩) n c) xs) (j : Nat) (hj : j < xs.length) : w.cell? ⟨g, j, none⟩ = some (.string xs[j]) := by
 have h1 := World.ownsRow.cells h (g := g) rfl j (.string xs[j]) (by rw [List.getElem?_map, List.getElem?_eq_getElem hj]; rfl)
 have e : ((⟨g, 0, none⟩ : Addr).add j) = ⟨g, 0 + j, none⟩ := by unfold Addr.add; split <;> simp_all
 rw [e, Nat.zero_add] at h1
 exact h1
structure AppT (w : World) (B : Nat) (v : Value) (xs : List ByteArray) (w' : World) (v' : Value) : Prop where
 own : OwnT w' B v' xs
 grow : w.grownBy w' v.ownBlock
 row : ∀ x, v.ownBlock = some x → B ≤ x
theorem app_str (w : World) (ty : TypeId) (B : Nat) (v : Value) (xs : List ByteArray) (x : ByteArray) (h : OwnT w B v xs) (hB : B ≤ w.heap.size) (hlen : xs.length ≤ 1000000) :
  ∃ g cap w', (Builtin.append_ #[25, 25] ty #[v, .slice (some ⟨w.heap.size, 0, none⟩) 1 1]).run Tryz.prog (w.alloc (.cells #[.string x] 9)) = .ok (.slice (some ⟨g, 0, none⟩) (xs.length + 1) cap) w' ∧ AppT (w.alloc (.cells #[.string x] 9)) B v (xs ++ [x]) w' (.slice (some ⟨g, 0, none⟩) (xs.length + 1) cap) := by
 obtain ⟨i0, hi, hz0, hz1, hz2⟩ := info_parts infoStr
 have h' : OwnT (w.alloc (.cells #[.string x] 9)) B v xs := h.ext ((Ext.refl w).alloc _)
 obtain ⟨v', w', h1, h2, h3, _⟩ := run_append_own (P := Tryz.prog) _ B 25 ty 9 i0 (.string ByteArray.empty) 1 16 Tryz.underlying25 hi hz0 hz1 hz2 rfl (by omega) v xs.length (xs.map Value.string) h' ⟨w.heap.size, 0, none⟩ 1 1 [.string x] rfl
  (fun j u hu => by
   have hadd : (⟨w.heap.size, 0, none⟩ : Addr).add j = ⟨w.heap.size, 0 + j, none⟩ := by unfold Addr.add; split <;> simp_all
   rw [hadd, (Blk.new w 9 #[.string x]).cell, Nat.zero_add]
   simpa using hu) (by intro u hu; simp at hu; subst hu; rfl) (by unfold maxLen; omega) (by omega) (by rw [size_alloc]; omega)
 have h2' : OwnT w' B v' (xs ++ [x]) := by unfold OwnT; rw [List.map_append, List.length_append]; exact h2
 rcases h2.2 with ⟨_, h0⟩ | ⟨g, cap, cur, rfl, _⟩
 ·omega
 ·exact ⟨g, cap, w', h1, h2', h3, own_block h'⟩
def toldB (x : Wd) : ByteArray := ⟨(toldP x).toArray⟩
def sumT (ws : List Wd) : Nat := (ws.map fun x => (toldP x).length).sum
theorem join_sum : ∀ ws : List Wd, (joinP ws).length = sumT ws + (ws.length - 1)
 | [] => rfl
 | [x] => by simp [joinP, sumT]
 | x :: y :: l => by
  have ih := join_sum (y :: l)
  simp only [joinP, List.length_append, List.length_cons, ih, sumT, List.map_cons, List.sum_cons]
  omega
theorem join_told : ∀ ws : List Wd, Lib.join ((ws.map toldB).map (·.data.toList)) [32] = joinP ws
 | [] => rfl
 | [x] => by simp [joinP, Lib.join, List.intercalate, toldB]
 | x :: y :: l => by
  have ih := join_told (y :: l)
  rw [joinP, ← ih]
  simp [Lib.join, List.intercalate, toldB]
theorem sum_take (ws : List Wd) (k : Nat) : sumT (ws.take k) ≤ sumT ws := by
 unfold sumT
 induction ws generalizing k with
 | nil => simp
 | cons x l ih =>
  cases k with
  | zero => simp
  | succ k =>
   simp only [List.take_succ_cons, List.map_cons, List.sum_cons]
   have := ih k
   omega
theorem sum_snoc (ws : List Wd) (k : Nat) (h : k < ws.length) : sumT (ws.take (k + 1)) = sumT (ws.take k) + (toldP ws[k]).length := by
 unfold sumT
 rw [List.take_succ_eq_append_getElem h, List.map_append, List.sum_append]
 simp
theorem told_snoc (ws : List Wd) (k : Nat) (h : k < ws.length) : (ws.take (k + 1)).map toldB = (ws.take k).map toldB ++ [toldB ws[k]] := by
 rw [List.take_succ_eq_append_getElem h, List.map_append]; rfl
theorem join_texts (xs : List ByteArray) (v : Value) (w : World) (B : Nat) (h : OwnT w B v xs) (hn : xs.length ≤ 1000000) (hJ : (Lib.join (xs.map (·.data.toList)) [32]).length ≤ 140737488355328) :
  Calls Tryz.prog 84 #[v, .string ⟨#[32]⟩] w fun e w' => e = .returned (.string ⟨(Lib.join (xs.map (·.data.toList)) [32]).toArray⟩) ∧ Ext w w' := by
 have h' := h
 obtain ⟨hlen, hx⟩ := h
 rcases hx with ⟨rfl, h0⟩ | ⟨g, cap, cur, rfl, hB, hb, hc, hm, hs, ht⟩
 ·obtain rfl : xs = [] := List.eq_nil_of_length_eq_zero h0
  refine (Tryz.strings_Join_none none 0 ⟨#[32]⟩ w).mono ?_
  rintro e w' ⟨rfl, rfl⟩
  exact ⟨rfl, Ext.refl _⟩
 ·refine (Tryz.strings_Join g 0 cap xs ⟨#[32]⟩ w ?_ ?_ (by omega) hc hJ).mono ?_
  ·intro j x hj
   have hjl : j < xs.length := (List.getElem?_eq_some_iff.1 hj).1
   have := h'.cell j hjl
   rw [Nat.zero_add, this]
   rw [List.getElem?_eq_getElem hjl] at hj
   rw [Option.some.inj hj]
  ·exact (Array.getElem?_eq_some_iff.1 hb).1
  ·rintro e w' ⟨rfl, hw⟩
   exact ⟨rfl, hw⟩
theorem print_any (w : World) (v : Value) (ws : List Wd) (hL : Laid w) (hv : WordsAt w v ws) (hlen : ws.length ≤ 1000000) (hm : ws.all mayP = true) (hi : ∀ x ∈ ws, x.n ≤ 9223372036854775807) (ht : ∀ x ∈ ws, x.t.length ≤ 1048576) (hj : (joinP ws).length ≤ 1048576) :
  Calls Tryz.prog 48 #[v] w fun e w' => e = .returned (.tuple #[.string ⟨(joinP ws).toArray⟩, .int .i64 0]) ∧ Ext w w' := by
 have hc := contains_may w v ws hL hv (by omega)
 rw [hm] at hc
 have HC := Lib.hid hc
 obtain ⟨q, c, rfl, hx⟩ := hv
 have HX := Lib.hid hx
 clear hx
 obtain ⟨n, hn⟩ : ∃ n, ws.length = n := ⟨_, rfl⟩
 rw [hn] at hlen HC ⊢
 have HN := Lib.hid hn
 have HM := Lib.hid hm
 have HI := Lib.hid hi
 have HT := Lib.hid ht
 have HL := Lib.hid hL
 have HJ := Lib.hid hj
 obtain ⟨c0, hc0⟩ : ∃ c0 : Nat, n - 1 = c0 := ⟨_, rfl⟩
 have hmax : max (0 : Int) ((n : Int) - 1) = (c0 : Int) := by omega
 have HS : Hid (sumT ws + c0 ≤ 1048576) := Lib.hid (by have h := join_sum ws; rw [hn, hc0] at h; omega)
 have HC0 := Lib.hid hc0
 clear hc hL hm hn hi ht hj hc0
 go_enter Tryz.func48, Tryz.ntmps48
 go_wp2_with fail
 refine HC.out.mono ?_
 rintro e w1 ⟨rfl, he⟩
 have HE := Lib.hid he
 clear he
 go_wp2_with fail
 go_loopw [16, 4, 5] (fun i v4 v5 wr => ∃ (v : Value) (k t : Nat), v = v4 ∧ k ≤ n ∧ i = .int .i64 k ∧ v5 = .int .i64 t ∧ Hid (t = c0 + sumT (ws.take k)) ∧ Hid (OwnT wr w.heap.size v ((ws.take k).map toldB)) ∧ Hid (Ext w wr)) (fun i _ _ _ => n - (intOf i).toNat)
 case atStart => exact ⟨_, 0, c0, rfl, Nat.zero_le _, rfl, rfl, Lib.hid (by simp [sumT]), Lib.hid (OwnT.nil _ _), HE⟩
 case round =>
  obtain ⟨v, k, t, rfl, hk, rfl, rfl, HT5, HO, HEW⟩ := hrel
  have hBs : w.heap.size ≤ wr.heap.size := HEW.out.le
  have htl : Hid (((ws.take k).map toldB).length = k) := Lib.hid (by rw [List.length_map, List.length_take, HN.out]; omega)
  by_cases hlt : k < n
  ·have kl : k < ws.length := by rw [HN.out]; exact hlt
   obtain ⟨b, o, rfl, hx⟩ := HX.out (by omega)
   have hxk := hx k kl
   have hts := told_snoc ws k kl
   have hss := sum_snoc ws k kl
   have hsl := sum_take ws (k + 1)
   have hxm := List.getElem_mem kl
   have hma := List.all_eq_true.1 HM.out _ hxm
   have hia := HI.out _ hxm
   have hta := HT.out _ hxm
   obtain ⟨x, hx'⟩ : ∃ x, ws[k] = x := ⟨_, rfl⟩
   rw [hx'] at hxk hts hss hma hia hta
   have cx0 := cell_of_ext hxk.1 HEW.out
   have cx1 := cell_of_ext hxk.2.1 HEW.out
   have cx2 := cell_of_ext hxk.2.2.1 HEW.out
   have cx3 := cell_of_ext hxk.2.2.2 HEW.out
   have lx : b < wr.heap.size := by
    rcases Nat.lt_or_ge b wr.heap.size with h1 | h1
    ·exact h1
    ·simp [World.cell?, Array.getElem?_eq_none h1] at cx0
   have k0 : (0 : Int) ≤ (k : Int) := by omega
   have k1 : (k : Int) < (n : Int) := by omega
   have h2n : x.k = 2 → 0 ≤ x.n := fun h2 => by
    unfold mayP at hma
    rw [if_neg (by omega), if_neg (by omega), if_pos h2] at hma
    simp only [Bool.and_eq_true, decide_eq_true_eq] at hma
    exact hma.2
   have TOLD := fun W (hE : Ext w W) => told_any W x (HL.out.ext hE) h2n hia hta
   have HTOLD := Lib.hid TOLD
   have HTS := Lib.hid hts
   have HSS := Lib.hid hss
   have HSL := Lib.hid hsl
   obtain ⟨m, hm⟩ : ∃ m, (toldP x).length = m := ⟨_, rfl⟩
   have hsz : (toldB x).size = m := by rw [← hm]; rfl
   have HMM := Lib.hid hm
   obtain ⟨X, hX⟩ : ∃ X, toldB x = X := ⟨_, rfl⟩
   rw [hX] at hsz
   have HXX := Lib.hid hX
   have htm : t + m ≤ 1048576 := by rw [← hm]; have h1 := HT5.out; have h2 := HS.out; omega
   have d5 : decide ((1048576 : Int) < (t : Int) + (m : Int)) = false := decide_eq_false (by omega)
   clear hx hxk hx' kl hts hss hsl hxm hma hia hta h2n TOLD hm hX
   go_wp2_with fail
   refine (HTOLD.out _ (HEW.out.alloc _)).mono ?_
   rintro e w2 ⟨rfl, he⟩
   have HE2 : Hid (Ext w w2) := Lib.hid ((HEW.out.alloc _).trans he)
   have HO2 : Hid (OwnT w2 w.heap.size v ((ws.take k).map toldB)) := Lib.hid ((HO.out.ext ((Ext.refl wr).alloc _)).ext he)
   clear he
   obtain ⟨g, cap, w3, hrun, happ⟩ := app_str w2 25 w.heap.size v ((ws.take k).map toldB) X HO2.out HE2.out.le (by rw [htl.out]; omega)
   rw [htl.out] at hrun happ
   have HRUN := Lib.hid hrun
   have HE3 : Hid (Ext w w3) := Lib.hid ((HE2.out.alloc _).grown happ.grow happ.row)
   have HO3 : Hid (OwnT w3 w.heap.size (.slice (some ⟨g, 0, none⟩) (k + 1) cap) ((ws.take (k + 1)).map toldB)) := Lib.hid (by rw [HTS.out, HXX.out]; exact happ.own)
   have cg : w3.cell? ⟨g, k, none⟩ = some (.string X) := by
    have h := happ.own.cell k (by rw [List.length_append, htl.out]; simp)
    rw [h]
    congr 2
    rw [List.getElem_append_right (by rw [htl.out]; exact Nat.le_refl _)]
    simp [htl.out]
   clear hrun happ
   rw [show (⟨(toldP x).toArray⟩ : ByteArray) = X from HXX.out]
   go_wp2_with (at_builtin; refine wpList_append_run rfl _ _ 25 rfl _ _ _ _ rfl rfl HRUN.out ?_)
   go_roundw
   case rel => exact ⟨_, k + 1, t + m, rfl, hlt, by go_num, by go_num, Lib.hid (by rw [HSS.out, HMM.out]; have h1 := HT5.out; omega), HO3, HE3⟩
   case measure => simp [intOf]; omega
  ·obtain rfl : k = n := by omega
   have HO2 : Hid (OwnT wr w.heap.size v (ws.map toldB)) := Lib.hid (by have h := HO.out; rw [List.take_of_length_le (by rw [HN.out]; exact Nat.le_refl _)] at h; exact h)
   go_wp2_with fail
   refine (join_texts _ _ _ _ HO2.out (by rw [List.length_map, HN.out]; omega) (by rw [join_told]; have := HJ.out; omega)).mono ?_
   rintro e w2 ⟨rfl, he⟩
   have HE2 := Lib.hid (HEW.out.trans he)
   clear he
   rw [join_told]
   go_wp2_with fail
   go_ret2
   exact ⟨rfl, HE2.out⟩
abbrev zNd : Value := .agg #[.int .i64 0, .string ⟨#[]⟩, .string ⟨#[]⟩, .int .i64 0, .slice none 0 0, .slice none 0 0]
abbrev wipe6 (W : World) (V : Nat) : World := put6 W V (.int .i64 0) (.string ⟨#[]⟩) (.string ⟨#[]⟩) (.int .i64 0) (.slice none 0 0) (.slice none 0 0)
theorem assert_stop0 (a b : Int) (w : World) : (Instr.typeAssert (.iface 85 (.agg #[.int .i64 a, .int .i64 b])) 20 85 true).run Tryz.prog w = .ok (.tuple #[.agg #[.int .i64 a, .int .i64 b], .bool true]) w := by kernel_rfl
theorem assert_stop (y : Int × Int) (w : World) : (Instr.typeAssert (stopV y) 20 85 true).run Tryz.prog w = .ok (.tuple #[.agg #[.int .i64 y.1, .int .i64 y.2], .bool true]) w := assert_stop0 y.1 y.2 w
theorem pidle (a b c : Value) (w : World) : CallsD Tryz.prog 52 #[a, b, c] .returning w fun e u' w' => e = .returned (.tuple #[]) ∧ u' = .returning ∧ w' = w := by
 refine callsD_of_wpS Tryz.func52 rfl fun c₀ cs hu => ?_
 apply wpS_seq
 apply wpS_region
 simp [wpOpsS, go_sem, recoverD, hu, Tryz.ntmps52, Exit.thenS]
 refine wpS_of_wp ?_
 go_wp2_with fail
 cases c₀
 simp_all [bodyPostS, results, Tryz.results52, Exit.inBlock]
def pcloseW (w : World) (B : Nat) (y : Int × Int) : World := ((((wipe6 w B).setCell ⟨B + 1, 0, none⟩ (.int .i64 y.1)).setCell ⟨B + 1 + 1, 0, none⟩ (.int .i64 y.2)).alloc (.cells #[.int .i64 y.1, .int .i64 y.2] 85)).drew
theorem ppanic (y : Int × Int) (B : Nat) (older : List PanicEntry) (w : World) (x0 x1 x2 x3 x4 x5 x6 x7 : Value) (h6 : Blk w B 28 #[x0, x1, x2, x3, x4, x5]) (h7 : Blk w (B + 1) 3 #[x6]) (h8 : Blk w (B + 1 + 1) 37 #[x7]) :
  CallsD Tryz.prog 52 #[.pointer (some ⟨B, 0, none⟩), .pointer (some ⟨B + 1, 0, none⟩), .pointer (some ⟨B + 1 + 1, 0, none⟩)] (.panicking ({ v := stopV y, recovered := false } :: older)) w fun e u' w' =>
   e = .returned (.tuple #[]) ∧ u' = .panicking ({ v := stopV y, recovered := true } :: older) ∧ w' = pcloseW w B y := by
 obtain ⟨y0, y1⟩ := y
 have ha : ∀ w : World, _ := assert_stop (y0, y1)
 have a0 := h6.cell 0
 have a1 := h6.cell 1
 have a2 := h6.cell 2
 have a3 := h6.cell 3
 have a4 := h6.cell 4
 have a5 := h6.cell 5
 have a6 := h7.cell 0
 have a7 := h8.cell 0
 have f0 := h6.frozen 0
 have f1 := h6.frozen 1
 have f2 := h6.frozen 2
 have f3 := h6.frozen 3
 have f4 := h6.frozen 4
 have f5 := h6.frozen 5
 have f6 := h7.frozen 0
 have f7 := h8.frozen 0
 have l0 := h6.lt
 have l1 := h7.lt
 have l2 := h8.lt
 simp only [List.getElem?_toArray, List.getElem?_cons_zero, List.getElem?_cons_succ] at a0 a1 a2 a3 a4 a5 a6 a7
 unfold stopV at ha
 refine callsD_of_wpS Tryz.func52 rfl fun c₀ cs hu => ?_
 unfold stopV at hu
 apply wpS_seq
 apply wpS_region
 simp [wpOpsS, go_sem, recoverD, hu, Tryz.ntmps52, Exit.thenS]
 refine wpS_of_wp ?_
 change Code.wp _ _ _ { tmps := #[.pointer (some ⟨B, 0, none⟩), .pointer (some ⟨B + 1, 0, none⟩), .pointer (some ⟨B + 1 + 1, 0, none⟩), undef, undef, undef, .iface 85 (.agg #[.int .i64 y0, .int .i64 y1]), undef, undef, undef, undef, undef, undef, undef, undef, undef, undef], defers := [] } w
 generalize hcs : ({ c₀ with mode := FrameMode.panicking ({ v := .iface 85 (.agg #[.int .i64 y0, .int .i64 y1]), recovered := true } :: older) } :: cs : List Frame) = cs'
 go_wp2_with fail
 go_region
 subst hcs
 rename_i Q'
 simp [Q', Exit.then, Exit.inBlock, bodyPostS, results, Tryz.results52, stopV, pcloseW]
theorem lexS_len {l : List UInt8} {ws : List Wd} (h : lexS l = .ok ws) : ws.length ≤ l.length := by
 unfold lexS at h
 by_cases hg : ∀ x ∈ itemsP (blankS false l) (l.drop (blankS false l)), 1 ≤ x.2
 ·rw [lex_fine _ _ _ (Nat.le_refl _) hg] at h
  cases h
  have := items_len _ (l.drop (blankS false l)) (blankS false l) (Nat.le_refl _)
  rw [List.length_drop] at this
  rw [List.length_map]
  omega
 ·simp only [Classical.not_forall] at hg
  obtain ⟨x, hx, h0⟩ := hg
  obtain ⟨pre, tail, e⟩ := List.append_of_mem hx
  obtain ⟨p, _, e2⟩ := lex_bad _ _ _ pre tail x (Nat.le_refl _) e (by omega)
  rw [e2] at h
  cases h
def ParseE (w : World) (l : List UInt8) (e : Ending) (w' : World) : Prop := Ext w w' ∧ match parseR l with
 | .error y => e = .returned (.tuple #[zNd, .int .i64 y.1, .int .i64 y.2])
 | .ok x => ∃ v d, e = .returned (.tuple #[v, .int .i64 0, .int .i64 0]) ∧ NodeAt (w.heap.size ≤ ·) w' d v x
theorem pface_ret (W : World) (V : Nat) (u0 u1 u2 u3 u4 u5 u6 u7 : Value) (hv : Blk W V 28 #[u0, u1, u2, u3, u4, u5]) (ha : Blk W (V + 1) 3 #[u6]) (he : Blk W (V + 1 + 1) 37 #[u7]) (R : Ending → World → Prop) (hR : R (.returned (.tuple #[.agg #[u0, u1, u2, u3, u4, u5], u6, u7])) W) (x0 x1 x5 x6 x7 x8 x9 x10 x11 x12 x13 x14 x15 x16 x17 x18 x19 x20 x21 x22 x23 x24 x25 x26 x27 x28 x29 x30 x31 x32 x33 x34 x35 x36 x37 x38 x39 x40 x41 x42 : Value) :
  bodyPostD Tryz.prog Tryz.f26 R Exit.ret { tmps := #[x0, x1, .pointer (some ⟨V, 0, none⟩), .pointer (some ⟨V + 1, 0, none⟩), .pointer (some ⟨V + 1 + 1, 0, none⟩), x5, x6, x7, x8, x9, x10, x11, x12, x13, x14, x15, x16, x17, x18, x19, x20, x21, x22, x23, x24, x25, x26, x27, x28, x29, x30, x31, x32, x33, x34, x35, x36, x37, x38, x39, x40, x41, x42], defers := [] } W := by
 have d0 := hv.cell 0
 have d1 := hv.cell 1
 have d2 := hv.cell 2
 have d3 := hv.cell 3
 have d4 := hv.cell 4
 have d5 := hv.cell 5
 have d6 := ha.cell 0
 have d7 := he.cell 0
 simp only [List.getElem?_toArray, List.getElem?_cons_zero, List.getElem?_cons_succ] at d0 d1 d2 d3 d4 d5 d6 d7
 simp [bodyPostD, Leaves, settle, results, Tryz.results26, go_sem, d0, d1, d2, d3, d4, d5, d6, d7]
 exact hR
theorem pface_done (W : World) (V : Nat) (u0 u1 u2 u3 u4 u5 u6 u7 : Value) (hv : Blk W V 28 #[u0, u1, u2, u3, u4, u5]) (ha : Blk W (V + 1) 3 #[u6]) (he : Blk W (V + 1 + 1) 37 #[u7]) (R : Ending → World → Prop) (hR : R (.returned (.tuple #[.agg #[u0, u1, u2, u3, u4, u5], u6, u7])) W) (x0 x1 x5 x6 x7 x8 x9 x10 x11 x12 x13 x14 x15 x16 x17 x18 x19 x20 x21 x22 x23 x24 x25 x26 x27 x28 x29 x30 x31 x32 x33 x34 x35 x36 x37 x38 x39 x40 x41 x42 : Value) :
  Leaves Tryz.prog Tryz.f26 #[x0, x1, .pointer (some ⟨V, 0, none⟩), .pointer (some ⟨V + 1, 0, none⟩), .pointer (some ⟨V + 1 + 1, 0, none⟩), x5, x6, x7, x8, x9, x10, x11, x12, x13, x14, x15, x16, x17, x18, x19, x20, x21, x22, x23, x24, x25, x26, x27, x28, x29, x30, x31, x32, x33, x34, x35, x36, x37, x38, x39, x40, x41, x42] R [{ target := Target.fn (Fn.func 52) #[.pointer (some ⟨V, 0, none⟩), .pointer (some ⟨V + 1, 0, none⟩), .pointer (some ⟨V + 1 + 1, 0, none⟩)], args := #[] }] .returning W := by
 have d0 := hv.cell 0
 have d1 := hv.cell 1
 have d2 := hv.cell 2
 have d3 := hv.cell 3
 have d4 := hv.cell 4
 have d5 := hv.cell 5
 have d6 := ha.cell 0
 have d7 := he.cell 0
 simp only [List.getElem?_toArray, List.getElem?_cons_zero, List.getElem?_cons_succ] at d0 d1 d2 d3 d4 d5 d6 d7
 refine leaves_cons (f := 52) (args := #[.pointer (some ⟨V, 0, none⟩), .pointer (some ⟨V + 1, 0, none⟩), .pointer (some ⟨V + 1 + 1, 0, none⟩)]) (by simp) (by simp [go_sem]) ?_
 refine (pidle _ _ _ W).mono ?_
 rintro e u' w1 ⟨rfl, rfl, rfl⟩
 show Leaves _ _ _ _ _ (settle _) w1
 have hs : settle .returning = .returning := rfl
 rw [hs]
 simp [Leaves, settle, results, Tryz.results26, go_sem, d0, d1, d2, d3, d4, d5, d6, d7]
 exact hR
theorem pclose_blk (W : World) (V : Nat) (u0 u1 u2 u3 u4 u5 u6 u7 : Value) (hv : Blk W V 28 #[u0, u1, u2, u3, u4, u5]) (ha : Blk W (V + 1) 3 #[u6]) (he : Blk W (V + 1 + 1) 37 #[u7]) (y : Int × Int) :
  Blk (pcloseW W V y) V 28 #[.int .i64 0, .string ⟨#[]⟩, .string ⟨#[]⟩, .int .i64 0, .slice none 0 0, .slice none 0 0] ∧ Blk (pcloseW W V y) (V + 1) 3 #[.int .i64 y.1] ∧ Blk (pcloseW W V y) (V + 1 + 1) 37 #[.int .i64 y.2] := by
 have g0 := Blk.put6 hv (.int .i64 0) (.string ⟨#[]⟩) (.string ⟨#[]⟩) (.int .i64 0) (.slice none 0 0) (.slice none 0 0)
 have g1 : Blk (wipe6 W V) (V + 1) 3 #[u6] := (put6_far W V _ _ _ _ _ _ _ (by omega)).trans ha
 have g2 : Blk (wipe6 W V) (V + 1 + 1) 37 #[u7] := (put6_far W V _ _ _ _ _ _ _ (by omega)).trans he
 have h1 := g1.set_ 0 (.int .i64 y.1)
 have h2 := (g2.far (p := ⟨V + 1, 0, none⟩) (by show ¬ V + 1 + 1 = V + 1; omega) (.int .i64 y.1)).set_ 0 (.int .i64 y.2)
 simp only [List.setIfInBounds_toArray, List.set_cons_zero] at h1 h2
 have fin : ∀ {X : World} {b : Nat} {t : TypeId} {cs : Array Value}, Blk X b t cs → Blk ((X.alloc (.cells #[.int .i64 y.1, .int .i64 y.2] 85)).drew) b t cs := fun h => Blk.ext h (((Ext.refl _).alloc _).drew)
 unfold pcloseW
 exact ⟨fin ((g0.far (p := ⟨V + 1, 0, none⟩) (by show ¬ V = V + 1; omega) _).far (p := ⟨V + 1 + 1, 0, none⟩) (by show ¬ V = V + 1 + 1; omega) _), fin (h1.far (p := ⟨V + 1 + 1, 0, none⟩) (by show ¬ V + 1 = V + 1 + 1; omega) _), fin h2⟩
theorem pclose_ext {B W : World} (h : Ext B W) (V : Nat) (hV : B.heap.size ≤ V) (y : Int × Int) : Ext B (pcloseW W V y) := by
 unfold pcloseW
 refine Ext.drew (Ext.alloc ?_ _)
 repeat (refine Ext.setCell ?_ (by show B.heap.size ≤ _; first | exact hV | (show B.heap.size ≤ V; exact hV) | (show B.heap.size ≤ V + 1; omega) | (show B.heap.size ≤ V + 1 + 1; omega)) _)
 exact h
theorem pface_door (W : World) (V : Nat) (y : Int × Int) (u0 u1 u2 u3 u4 u5 u6 u7 : Value) (hv : Blk W V 28 #[u0, u1, u2, u3, u4, u5]) (ha : Blk W (V + 1) 3 #[u6]) (he : Blk W (V + 1 + 1) 37 #[u7]) (R : Ending → World → Prop) (hR : R (.returned (.tuple #[zNd, .int .i64 y.1, .int .i64 y.2])) (pcloseW W V y)) (x0 x1 x5 x6 x7 x8 x9 x10 x11 x12 x13 x14 x15 x16 x17 x18 x19 x20 x21 x22 x23 x24 x25 x26 x27 x28 x29 x30 x31 x32 x33 x34 x35 x36 x37 x38 x39 x40 x41 x42 : Value) :
  Leaves Tryz.prog Tryz.f26 #[x0, x1, .pointer (some ⟨V, 0, none⟩), .pointer (some ⟨V + 1, 0, none⟩), .pointer (some ⟨V + 1 + 1, 0, none⟩), x5, x6, x7, x8, x9, x10, x11, x12, x13, x14, x15, x16, x17, x18, x19, x20, x21, x22, x23, x24, x25, x26, x27, x28, x29, x30, x31, x32, x33, x34, x35, x36, x37, x38, x39, x40, x41, x42] R [{ target := Target.fn (Fn.func 52) #[.pointer (some ⟨V, 0, none⟩), .pointer (some ⟨V + 1, 0, none⟩), .pointer (some ⟨V + 1 + 1, 0, none⟩)], args := #[] }] (.panicking [{ v := stopV y, recovered := false }]) W := by
 refine leaves_cons (f := 52) (args := #[.pointer (some ⟨V, 0, none⟩), .pointer (some ⟨V + 1, 0, none⟩), .pointer (some ⟨V + 1 + 1, 0, none⟩)]) (by simp) (by simp [go_sem]) ?_
 refine (ppanic y V [] W _ _ _ _ _ _ _ _ hv ha he).mono ?_
 obtain ⟨g0, g1, g2⟩ := pclose_blk W V _ _ _ _ _ _ _ _ hv ha he y
 rintro e u' w1 ⟨rfl, rfl, rfl⟩
 show Leaves _ _ _ _ _ (settle _) _
 have hs : settle (.panicking [{ v := stopV y, recovered := true }]) = .returning := rfl
 rw [hs]
 clear hv ha he
 generalize pcloseW W V y = W1 at *
 have hv := g0
 have ha := g1
 have he := g2
 have d0 := hv.cell 0
 have d1 := hv.cell 1
 have d2 := hv.cell 2
 have d3 := hv.cell 3
 have d4 := hv.cell 4
 have d5 := hv.cell 5
 have d6 := ha.cell 0
 have d7 := he.cell 0
 simp only [List.getElem?_toArray, List.getElem?_cons_zero, List.getElem?_cons_succ] at d0 d1 d2 d3 d4 d5 d6 d7
 simp [Leaves, settle, results, Tryz.results26, go_sem, d0, d1, d2, d3, d4, d5, d6, d7]
 exact hR
end Go.Proofs.YtkbcnacjaakleaaGreatDoor
