/- The order of keys, by the document; a part of a row behind another row. A table's keys, by the document's heap. -/
import Derived.Test.YtfagldjhibdfhaaGreatDoorYD5
import Derived.Test.YtfagldjhibdfhaaGreatDoorYA6
import Derived.LoopTactic
import Derived.Deep.RegionLaw
import Derived.Deep.CutRange
import Derived.Deep.DeepCutAuto
import Derived.Deep.CutBlock
namespace Go.Proofs.YtfagldjhibdfhaaGreatDoor
open Go.RowKit
set_option linter.unusedVariables false
set_option linter.unusedSimpArgs false

def lessS (s t : ByteArray) : Bool := Op.bytesLess s.toList t.toList
theorem drop_cons (s : ByteArray) (k : Nat) (h : k < s.size) : s.data.toList.drop k = s[k] :: s.data.toList.drop (k + 1) := by
 have h' : k < s.data.toList.length := by simpa using h
 rw [List.drop_eq_getElem_cons h']; rfl
theorem drop_all (s : ByteArray) (k : Nat) (h : s.size ≤ k) : s.data.toList.drop k = [] := List.drop_eq_nil_of_le (by simpa using h)
def leftS (s t : ByteArray) (k : Nat) : Bool := Op.bytesLess (s.data.toList.drop k) (t.data.toList.drop k)
theorem left_zero (s t : ByteArray) : leftS s t 0 = lessS s t := by simp [leftS, lessS, Lib.toList_data]
theorem left_same {s t : ByteArray} {k : Nat} (h : k < s.size) (h' : k < t.size) (e : s[k] = t[k]) : leftS s t k = leftS s t (k + 1) := by
 unfold leftS; rw [drop_cons s k h, drop_cons t k h', Op.bytesLess, e]; simp
theorem left_other {s t : ByteArray} {k : Nat} (h : k < s.size) (h' : k < t.size) (e : ¬ s[k] = t[k]) : leftS s t k = decide (s[k].toNat < t[k].toNat) := by
 unfold leftS; rw [drop_cons s k h, drop_cons t k h', Op.bytesLess]; simp [e, UInt8.lt_iff_toNat_lt]
theorem left_end {s t : ByteArray} {k : Nat} (hs : k ≤ s.size) (ht : k ≤ t.size) (h : k = s.size ∨ k = t.size) : leftS s t k = decide (s.size < t.size) := by
 unfold leftS
 by_cases h1 : k < s.size
 ·have : k = t.size := by omega
  rw [drop_all t k (by omega), drop_cons s k h1]
  simp [Op.bytesLess]; omega
 ·rw [drop_all s k (by omega)]
  by_cases h2 : k < t.size
  ·rw [drop_cons t k h2]; simp [Op.bytesLess]; omega
  ·rw [drop_all t k (by omega)]; simp [Op.bytesLess]; omega
theorem rless_any (s t : ByteArray) (w : World) (hs : s.size ≤ 9223372036854775807) (ht : t.size ≤ 9223372036854775807) :
  Calls Tryz.prog 126 #[.string s, .string t] w fun e w' => e = .returned (.bool (lessS s t)) ∧ ∃ n, w' = w.drewN n := by
 go_enter Tryz.func126, Tryz.ntmps126
 go_wp2
 go_loopw [5] (fun i wr => ∃ k : Nat, k ≤ s.size ∧ k ≤ t.size ∧ i = .int .i64 k ∧ (∃ n, wr = w.drewN n) ∧ Hid (leftS s t k = lessS s t)) (fun i _ => s.size - (intOf i).toNat)
 case atStart => exact ⟨0, Nat.zero_le _, Nat.zero_le _, rfl, ⟨0, rfl⟩, left_zero s t⟩
 case round =>
  obtain ⟨k, hk, hk', rfl, ⟨n, rfl⟩, H⟩ := hrel
  by_cases h1 : k < s.size
  ·by_cases h2 : k < t.size
   ·by_cases h3 : s[k] = t[k]
    ·go_wp2
     go_quiet (fail)
     go_wp2
     go_roundw
     case rel => exact ⟨k + 1, h1, h2, by go_num, ⟨_, rfl⟩, (left_same h1 h2 h3).symm.trans H.out⟩
     case measure => simp [intOf]; omega
    ·have hne : ((s[k].toNat : Int) != (t[k].toNat : Int)) = true := by
      rw [bne_iff_ne]; intro e; exact h3 (UInt8.toNat_inj.1 (by omega))
     go_wp2
     go_quiet (fail)
     go_wp2
     go_quiet (fail)
     go_wp2
     go_ret
     go_tidy
     exact ⟨ret_of (bool_eq (by rw [← H.out, left_other h1 h2 h3])), ⟨_, by rw [World.drewN_drewN, World.drewN_drewN]⟩⟩
   ·go_wp2
    go_ret
    exact ⟨ret_of (bool_eq (by rw [← H.out, left_end hk hk' (by omega)])), ⟨_, rfl⟩⟩
  ·go_wp2
   go_ret
   exact ⟨ret_of (bool_eq (by rw [← H.out, left_end hk hk' (by omega)])), ⟨_, rfl⟩⟩
theorem bytesLess_lt : ∀ s t : List UInt8, Op.bytesLess s t = decide (s < t)
 | [], [] => by simp [Op.bytesLess]
 | [], y :: t => by simp [Op.bytesLess]
 | x :: s, [] => by simp [Op.bytesLess]
 | x :: s, y :: t => by
  have ih := bytesLess_lt s t
  simp only [Op.bytesLess, ih, List.cons_lt_cons_iff]
  by_cases h1 : x < y
  ·simp [h1]
  ·by_cases h2 : x = y
   ·simp [h2]
   ·simp [h1, h2]
theorem lessS_le (s t : ByteArray) : lessS s t = !decide (t.data.toList ≤ s.data.toList) := by
 unfold lessS
 rw [Lib.toList_data, Lib.toList_data, bytesLess_lt]
 rw [Bool.eq_iff_iff]
 simp only [decide_eq_true_eq, Bool.not_eq_true', decide_eq_false_iff_not]
 exact List.not_le.symm
theorem leK_lt {a b : Vl} (h : a.k < b.k) : leK b a = false := by
 unfold leK
 rw [Bool.or_eq_false_iff, Bool.and_eq_false_iff]
 exact ⟨decide_eq_false (by omega), .inl (decide_eq_false (by omega))⟩
theorem leK_gt {a b : Vl} (h : b.k < a.k) : leK b a = true := by
 unfold leK
 rw [Bool.or_eq_true]
 exact .inl (decide_eq_true h)
theorem leK_num {a b : Vl} (h : a.k = b.k) (h2 : a.k = 2) : leK b a = decide (b.n ≤ a.n) := by
 unfold leK
 rw [if_pos (by omega), decide_eq_false (by omega : ¬ b.k < a.k), decide_eq_true h.symm]
 simp
theorem leK_txt {a b : Vl} (h : a.k = b.k) (h3 : a.k = 3) : leK b a = !lessS a.s b.s := by
 unfold leK
 rw [if_neg (by omega), decide_eq_false (by omega : ¬ b.k < a.k), decide_eq_true h.symm, lessS_le]
 simp
theorem app_part (W : World) (ty : TypeId) (B : Nat) (kv : Value) (ks ns : List Vl) (p : Option Addr) (m c : Nat) (hm : m = ns.length) (hc : m = 0 ∨ ∃ b o, p = some ⟨b, o, none⟩ ∧ ∀ j u, (flat ns)[j]? = some u → W.cell? ⟨b, o + j, none⟩ = some u)
  (hp : p = none → c = 0) (h : RowB W B kv ks) (hB : B ≤ W.heap.size) (hn : ks.length + ns.length < 1000000) :
  ∃ v' w', AppRuns Tryz.prog 35 ty kv (.slice p m c) W v' w' ∧ RowB w' B v' (ks ++ ns) ∧ W.grownBy w' kv.ownBlock ∧ (v'.ownBlock = kv.ownBlock ∨ v'.ownBlock = some W.heap.size) := by
 obtain ⟨i0, hi, hz0, hz1, hz2⟩ := info_parts infoVal
 cases p with
 | none =>
  have hm0 : m = 0 := by
   rcases hc with h | ⟨b, o, e, _⟩
   ·exact h
   ·cases e
  have hc0 := hp rfl
  subst hm0 hc0
  have hns : ns = [] := List.eq_nil_of_length_eq_zero hm.symm
  subst hns
  rw [List.append_nil]
  exact ⟨kv, W, ⟨run_append_owned_none (P := Tryz.prog) W B 35 ty 26 i0 3 Tryz.underlying35 hi kv ks.length (flat ks) h⟩, h, World.grownBy.refl W _, .inl rfl⟩
 | some a =>
  have hfl : (flat ns).length = m * 3 := by rw [flat_len, hm]
  obtain ⟨v', w', h1, h2, h3, _, h4⟩ := run_append_own_at (P := Tryz.prog) (w := W) B 35 ty 26 i0 Vl.zero.v 3 32 Tryz.underlying35 hi hz0 hz1 hz2 rfl (by omega) kv ks.length (flat ks) h a m c
   (flat ns) hfl (fun j u hu => by
    rcases hc with h0 | ⟨b, o, e, hcell⟩
    ·have : (flat ns).length = 0 := by rw [hfl, h0]
     rw [List.getElem?_eq_none (by omega)] at hu
     cases hu
    ·cases e
     have hadd : (⟨b, o, none⟩ : Addr).add j = ⟨b, o + j, none⟩ := by unfold Addr.add; split <;> simp_all
     rw [hadd]
     exact hcell j u hu) (by
    intro u hu
    obtain ⟨x, _, hx⟩ := List.mem_flatMap.1 hu
    simp at hx
    rcases hx with rfl | rfl | rfl <;> rfl) (by unfold maxLen; omega) (by omega) hB
  exact ⟨v', w', ⟨h1⟩, by (show w'.ownsRow B 26 3 v' (ks ++ ns).length (flat (ks ++ ns))); rw [show flat (ks ++ ns) = flat ks ++ flat ns by simp [flat], List.length_append]; rw [← hm]; exact h2, h3, h4⟩
end Go.Proofs.YtfagldjhibdfhaaGreatDoor
namespace Go.Proofs.YtfagldjhibdfhaaGreatDoor
open Go.RowKit
set_option linter.unusedVariables false
set_option linter.unusedSimpArgs false

set_option maxRecDepth 100000 in
theorem rkeys_why (g : Nat) (tv : Value) (H : Hp) (t : Vl) (w : World) (h : RHeapIn w g tv H) (hlen : H.tabs.length ≤ 9223372036854775807) (hn : ¬ (ofW H t).toList = []) :
  Calls Tryz.prog 88 #[.pointer (some ⟨g, 0, none⟩), t.v] w fun e w' => e = .returned (.tuple #[.slice none 0 0, .string (ofW H t)]) ∧ Ext w w' := by
 have ho := fun W hW => rof_any g tv H t W hW hlen
 have hn' : (ofW H t).toList.isEmpty = false := by simpa using hn
 have HI := Lib.hid h
 clear h
 generalize ofW H t = o at *
 go_enter Tryz.func88, Tryz.ntmps88
 go_wp2_with fail
 refine (ho _ (HI.out.ext ((Ext.refl w).alloc _))).mono ?_
 rintro e w1 ⟨rfl, e1⟩
 have k1 := ((Ext.refl w).alloc _).trans e1
 go_wp2_with fail
 go_ret2
 exact ⟨rfl, by repeat (first | exact k1 | refine Ext.alloc ?_ _ | refine Ext.setCell ?_ (by simp <;> omega) _)⟩
theorem KOk.size {k : Vl} (h : KOk k) : k.s.size ≤ 1048576 := by
 have hc := h.ck
 unfold Vl.ck checkB at hc
 rcases h.kind with h2 | h3
 ·simp [h2] at hc
  rw [show k.s = sNone from toList_nil (by first | exact hc | simpa using hc)]
  decide
 ·simp [h3] at hc
  exact hc.2
theorem row_nil {w : World} {B : Nat} {q : Option Addr} {n c : Nat} {l : List Vl} (h : RowB w B (.slice q n c) l) (hq : q = none) : c = 0 := by
 subst hq
 rcases h.2 with ⟨e, _⟩ | ⟨g, cap, cur, e, _⟩
 ·injection e
 ·injection e with e _ _
  cases e
theorem row_part {w : World} {B : Nat} {q : Option Addr} {n c : Nat} {l : List Vl} (h : RowB w B (.slice q n c) l) (P : Nat) (hP : P ≤ l.length) :
  l.length ≤ c ∧ ∀ w' : World, (∀ k, k < w.heap.size → w'.heap[k]? = w.heap[k]?) →
   (P = 0 ∨ ∃ b o, q = some ⟨b, o, none⟩ ∧ ∀ j u, (flat (l.take P))[j]? = some u → w'.cell? ⟨b, o + j, none⟩ = some u) ∧
   (l.length - P = 0 ∨ ∃ b o, q = some ⟨b, o, none⟩ ∧ ∀ j u, (flat (l.drop P))[j]? = some u → w'.cell? ⟨b, o + P * 3 + j, none⟩ = some u) := by
 have hsplit : flat l = flat (l.take P) ++ flat (l.drop P) := by
  unfold flat
  rw [← List.flatMap_append, List.take_append_drop]
 rcases h.2 with ⟨e, h0⟩ | ⟨g, cap, cur, e, hb, hc, h2, h3, h4, h5⟩
 ·refine ⟨by omega, fun w' _ => ⟨.inl (by omega), .inl (by omega)⟩⟩
 ·injection e with e1 e2 e3
  subst e1 e3
  refine ⟨h2, fun w' hw => ?_⟩
  have hc' := (hw g (lt_of_block hc)).trans hc
  have cell : ∀ j u, (flat l)[j]? = some u → w'.cell? ⟨g, j, none⟩ = some u := fun j u hu => by
   rw [cell_of_row w' g _ cur _ (0, 0) hc']
   rw [← h5, List.getElem?_take] at hu
   split at hu
   ·simpa using hu
   ·cases hu
  refine ⟨.inr ⟨g, 0, rfl, fun j u hu => ?_⟩, .inr ⟨g, 0, rfl, fun j u hu => ?_⟩⟩
  ·rw [Nat.zero_add]
   refine cell j u ?_
   rw [hsplit, List.getElem?_append_left (List.getElem?_eq_some_iff.1 hu).1]
   exact hu
  ·rw [Nat.zero_add]
   refine cell _ u ?_
   have hl : (flat (l.take P)).length = P * 3 := by rw [flat_len, List.length_take]; congr 1; omega
   rw [hsplit, List.getElem?_append_right (by omega), hl, Nat.add_sub_cancel_left]
   exact hu
def sofar (L : Tb) (j : Nat) : List Vl := ((L.take j).map (·.1)).foldl (fun out k => insK k out) []
theorem sofar_succ {L : Tb} {j : Nat} (h : j < L.length) : sofar L (j + 1) = insK L[j].1 (sofar L j) := by
 unfold sofar
 rw [List.take_succ_eq_append_getElem h, List.map_append, List.foldl_append]
 rfl
theorem sofar_len (L : Tb) : ∀ j, j ≤ L.length → (sofar L j).length = j
 | 0, _ => by simp [sofar]
 | j + 1, h => by
  rw [sofar_succ h, (insK_perm _ _).length_eq, List.length_cons, sofar_len L j (by omega)]
theorem sofar_ok {L T : Tb} (h : TRow L T) (hT : TbOk T) (j : Nat) : ∀ x ∈ sofar L j, KOk x := by
 intro x hx
 have hp := (keysR_spec ((L.take j).map (·.1)) [] List.Pairwise.nil).1
 rw [List.append_nil] at hp
 have hm := hp.mem_iff.1 hx
 obtain ⟨y, hy, rfl⟩ := List.mem_map.1 hm
 have hk : y.1 ∈ L.map (·.1) := List.mem_map_of_mem (List.mem_of_mem_take hy)
 obtain ⟨z, hz, e⟩ := List.mem_map.1 ((h.keys hT).mem_iff.1 hk)
 rw [← e]
 exact hT.key z hz
set_option maxRecDepth 100000 in
set_option maxHeartbeats 4000000 in
theorem rkeys_tab (g : Nat) (tv : Value) (H : Hp) (t : Vl) (w : World) (h : RHeapIn w g tv H) (hlen : H.tabs.length ≤ 9223372036854775807) (hn : ofW H t = sNone) :
  Calls Tryz.prog 88 #[.pointer (some ⟨g, 0, none⟩), t.v] w fun e w' => ∃ v, e = .returned (.tuple #[v, .string sNone]) ∧ RowB w' w.heap.size v (keysL (tabOf H t)) ∧ Ext w w' := by
 have ho := fun W hW => rof_any g tv H t W hW hlen
 obtain ⟨o1, o2, o3, o4, o5⟩ := ofW_none hn
 have hnn : rofN H t = t.n := by unfold rofN; rw [if_pos hn]
 rw [hnn, hn] at ho
 have HT := Lib.hid (tabOf_get o5)
 have hTb := tabOf_ok h.ok o5
 have hmost := hTb.most
 have HTb := Lib.hid hTb
 have hs0 := sNone_list
 have hs1 : sNone.toList.isEmpty = true := by rw [hs0]; rfl
 have HI := Lib.hid h
 obtain ⟨T, hT⟩ : ∃ T, T = tabOf H t := ⟨_, rfl⟩
 rw [← hT] at HT HTb hmost ⊢
 clear hn hnn hTb h hT
 obtain ⟨tk0, i, ts⟩ := t
 simp only at o1 o2 o3 o4 o5 HT ho
 obtain ⟨i, rfl⟩ : ∃ j : Nat, i = j := ⟨i.toNat, by omega⟩
 subst o2
 rw [Int.toNat_natCast] at HT o5
 go_enter Tryz.func88, Tryz.ntmps88
 go_wp2_with fail
 refine (ho _ (HI.out.ext ((Ext.refl w).alloc _))).mono ?_
 rintro e w1 ⟨rfl, e1⟩
 have k1 := ((Ext.refl w).alloc _).trans e1
 obtain ⟨rows, hrow, hrl, hrt⟩ := (HI.out.ext k1).rows
 have hir : i < rows.length := by omega
 obtain ⟨r, hr⟩ : ∃ r, rows[i]? = some r := ⟨_, List.getElem?_eq_getElem hir⟩
 obtain ⟨gb, cap, e0, hgb, c1, c2⟩ := rrow_cells hrow i _ hr
 obtain ⟨L, l1, l2, l3⟩ := hrt i _ _ hr HT.out
 have hcl := l1.count
 obtain ⟨qk, ck, ek⟩ := l2.slice
 have c0 : w1.cell? ⟨g, 0, none⟩ = some tv := (HI.out.ext k1).head.cell 0
 rw [List.length_map] at ek
 rw [ek] at c1 l2
 rw [e0] at c0
 have L1 := Lib.hid l1
 have L2 := Lib.hid l2
 have hgl : g < w1.heap.size := (HI.out.ext k1).head.lt
 have hw1 : w.heap.size ≤ w1.heap.size := k1.le
 have K1 := Lib.hid k1
 have CC := Lib.hid (And.intro c0 c1)
 have hLl : L.length ≤ 65536 := by omega
 have hb1 : (i : Int) < (H.tabs.length : Int) := by omega
 clear ho e1 hrow hrl hrt hir hr e0 l1 l2 l3 ek c0 c1 c2 k1 o1 o3 o4 hlen
 go_wp2_with fail
 go_loopw [8, 9] (fun ov x wr => ∃ j : Nat, x = .int .i64 j ∧ j ≤ L.length ∧ Hid (Ext w1 wr ∧ RowB wr w1.heap.size ov (sofar L j))) (fun _ x _ => L.length - (intOf x).toNat)
 case atStart => exact ⟨0, rfl, Nat.zero_le _, Lib.hid ⟨Ext.refl _, World.ownsRow_nil _ _ _ _⟩⟩
 case round =>
  obtain ⟨j, rfl, hj, HW⟩ := hrel
  have y0 := (HW.out.1.cells.1 _ _ hgl).trans CC.out.1
  have y1 := (HW.out.1.cells.1 _ _ hgb).trans CC.out.2
  rcases Nat.lt_or_ge j L.length with hlt | hge
  ·obtain ⟨bk, capk, ek, hbk, d1, d2, d3⟩ := L2.out.cells j L[j].1 (by simp [List.getElem?_map, List.getElem?_eq_getElem hlt])
   rw [List.length_map] at ek
   obtain ⟨rfl, rfl⟩ : qk = some ⟨bk, 0, none⟩ ∧ ck = capk := by injection ek with h1 _ h3; exact ⟨h1, h3⟩
   replace d1 := (HW.out.1.cells.1 _ _ hbk).trans d1
   replace d2 := (HW.out.1.cells.1 _ _ hbk).trans d2
   replace d3 := (HW.out.1.cells.1 _ _ hbk).trans d3
   have hd : decide ((j : Int) < (L.length : Int)) = true := by rw [decide_eq_true_eq]; omega
   have hd' : decide (j < L.length) = true := by rw [decide_eq_true_eq]; exact hlt
   have hsuc := sofar_succ hlt
   have hkok : KOk L[j].1 := by
    have hk : L[j].1 ∈ L.map (·.1) := List.mem_map_of_mem (List.getElem_mem hlt)
    obtain ⟨z, hz, e⟩ := List.mem_map.1 ((L1.out.keys HTb.out).mem_iff.1 hk)
    rw [← e]
    exact HTb.out.key z hz
   obtain ⟨x, hx⟩ : ∃ x, L[j].1 = x := ⟨_, rfl⟩
   rw [hx] at d1 d2 d3 hsuc hkok
   have HSU := Lib.hid hsuc
   have HKO := Lib.hid hkok
   clear hsuc hkok hx ek
   obtain ⟨O, hO⟩ : ∃ O, O = sofar L j := ⟨_, rfl⟩
   have hOl : O.length = j := by rw [hO]; exact sofar_len L j hj
   have hOk : ∀ x ∈ O, KOk x := by rw [hO]; exact sofar_ok L1.out HTb.out j
   rw [← hO] at HW HSU
   have HOK := Lib.hid hOk
   clear hO hOk
   have HE := Lib.hid HW.out.1
   have HR := Lib.hid HW.out.2
   clear HW
   obtain ⟨qo, co, eo⟩ := HR.out.at0.slice
   subst eo
   rw [hOl] at HR ⊢
   obtain ⟨xk, xn, xs⟩ := x
   simp only at d1 d2 d3
   have hzr : w1.heap.size ≤ wr.heap.size := HE.out.le
   go_upto_block 2 with (fail)
   obtain ⟨W8, hW8⟩ : ∃ W8, W8 = wr.alloc (.cells #[.int .i64 xk, .int .i64 xn, .string xs] 26) := ⟨_, rfl⟩
   have hE8 : Ext wr W8 := by rw [hW8]; exact (Ext.refl wr).alloc _
   have z8 : W8.heap.size = wr.heap.size + 1 := by rw [hW8, size_alloc]
   have b0 : W8.cell? ⟨wr.heap.size, 0, none⟩ = some (.int .i64 xk) := by rw [hW8]; simp
   have b1 : W8.cell? ⟨wr.heap.size, 1, none⟩ = some (.int .i64 xn) := by rw [hW8]; simp
   have b2 : W8.cell? ⟨wr.heap.size, 2, none⟩ = some (.string xs) := by rw [hW8]; simp
   have BB := Lib.hid (And.intro b0 (And.intro b1 b2))
   have HK8 : Hid (Blk W8 wr.heap.size 26 #[.int .i64 xk, .int .i64 xn, .string xs]) := Lib.hid (by rw [hW8]; exact Blk.new _ _ _)
   have HR8 : Hid (RowB W8 w1.heap.size (.slice qo (j : Nat) co) O) := Lib.hid (own_ext HR.out hE8)
   have HE8 := Lib.hid (HE.out.trans hE8)
   have hOj : O.length = j := hOl
   have HOJ := Lib.hid hOl
   clear b0 b1 b2 hE8 d1 d2 d3 y0 y1 hd hd' hOl hOj
   rw [← hW8]
   clear hW8
   go_cut [11] (fun s11 wx => s11 = .int .i64 (posK ⟨xk, xn, xs⟩ O j : Nat) ∧ Hid (wx.heap = W8.heap ∧ Ext w1 wx))
   case first =>
    go_wp2_with fail
    go_loopw [11] (fun x wi => ∃ a : Nat, x = .int .i64 a ∧ a ≤ j ∧ Hid (posK ⟨xk, xn, xs⟩ O j = posK ⟨xk, xn, xs⟩ O a) ∧ Hid (wi.heap = W8.heap ∧ Ext w1 wi)) (fun x _ => (intOf x).toNat)
    case atStart => exact ⟨j, rfl, Nat.le_refl _, Lib.hid rfl, Lib.hid ⟨rfl, HE8.out⟩⟩
    case round =>
     obtain ⟨a, rfl, ha, HP, HX⟩ := hrel
     obtain ⟨b0, b1, b2⟩ := BB.out
     rw [← (heap_cell HX.out.1 _).1] at b0 b1 b2
     cases a with
     | zero =>
      go_wp2_with fail
      go_quiet (fail)
      go_wp2_with fail
      go_meet
      exact ⟨by rw [HP.out]; rfl, Lib.hid ⟨HX.out.1, HX.out.2.drewN _⟩⟩
     | succ a =>
      obtain ⟨o, ho⟩ : ∃ o, O[a]? = some o := ⟨_, List.getElem?_eq_getElem (by rw [HOJ.out]; omega)⟩
      obtain ⟨bo, capo, eo, hbo, f1, f2, f3⟩ := HR8.out.at0.cells a o ho
      rw [HOJ.out] at eo
      obtain ⟨rfl, rfl⟩ : qo = some ⟨bo, 0, none⟩ ∧ co = capo := by injection eo with h1 _ h3; exact ⟨h1, h3⟩
      rw [← (heap_cell HX.out.1 _).1] at f1 f2 f3
      have hgd : O.getD a Vl.zero = o := by rw [List.getD_eq_getElem?_getD, ho]; rfl
      have hk1 := HOK.out o (List.mem_of_getElem? ho)
      have hk2 := HKO.out
      have hz1 : IntKind.i64.wrap ((a : Int) + 1 - 1) = a := by rw [IntWalk.i64_in _ (by omega)]; omega
      have hz2 : decide ((0 : Int) < (a : Int) + 1) = true := by rw [decide_eq_true_eq]; omega
      obtain ⟨ok, on, os⟩ := o
      simp only at f1 f2 f3
      have HPn : Hid (posK ⟨xk, xn, xs⟩ O (a + 1) = if leK ⟨ok, on, os⟩ ⟨xk, xn, xs⟩ then a + 1 else posK ⟨xk, xn, xs⟩ O a) := Lib.hid (by rw [posK, hgd])
      have hr1 : ok = 2 ∨ ok = 3 := hk1.kind
      have hr2 : xk = 2 ∨ xk = 3 := hk2.kind
      have hin : (a : Int) < (j : Int) := by omega
      have hzx : xs.size ≤ 9223372036854775807 := by have := KOk.size hk2; simp only at this; omega
      have hzo : os.size ≤ 9223372036854775807 := by have := KOk.size hk1; simp only at this; omega
      clear eo hgd ho hk1 hk2
      rcases hr1 with rfl | rfl <;> rcases hr2 with rfl | rfl
      ·by_cases hq : xn < on
       ·have HLE : Hid (leK ⟨2, on, os⟩ ⟨2, xn, xs⟩ = false) := Lib.hid (by rw [leK_num (a := ⟨2, xn, xs⟩) (b := ⟨2, on, os⟩) rfl rfl]; exact decide_eq_false (by show ¬ on ≤ xn; omega))
        go_wp2_with fail
        go_quiet (fail)
        go_wp2_with fail
        go_roundw
        case rel => exact ⟨a, by go_num, by omega, Lib.hid (by rw [HP.out, HPn.out, if_neg (by rw [HLE.out]; decide)]), Lib.hid ⟨HX.out.1, HX.out.2.drewN _⟩⟩
        case measure => simp [intOf]
       ·have HLE : Hid (leK ⟨2, on, os⟩ ⟨2, xn, xs⟩ = true) := Lib.hid (by rw [leK_num (a := ⟨2, xn, xs⟩) (b := ⟨2, on, os⟩) rfl rfl]; exact decide_eq_true (by show on ≤ xn; omega))
        have hq2 : decide (xn < on) = false := decide_eq_false hq
        go_wp2_with fail
        go_quiet (fail)
        go_wp2_with fail
        go_meet
        exact ⟨by first | (rw [HP.out, HPn.out, if_pos HLE.out]; done) | (rw [HP.out, HPn.out, if_pos HLE.out]; rfl), Lib.hid ⟨HX.out.1, HX.out.2.drewN _⟩⟩
      ·have HLE : Hid (leK ⟨2, on, os⟩ ⟨3, xn, xs⟩ = true) := Lib.hid (by exact leK_gt (a := ⟨3, xn, xs⟩) (b := ⟨2, on, os⟩) (show (2 : Int) < 3 by decide))
       go_wp2_with fail
       go_quiet (fail)
       go_wp2_with fail
       go_meet
       exact ⟨by first | (rw [HP.out, HPn.out, if_pos HLE.out]; done) | (rw [HP.out, HPn.out, if_pos HLE.out]; rfl), Lib.hid ⟨HX.out.1, HX.out.2.drewN _⟩⟩
      ·have HLE : Hid (leK ⟨3, on, os⟩ ⟨2, xn, xs⟩ = false) := Lib.hid (by exact leK_lt (a := ⟨2, xn, xs⟩) (b := ⟨3, on, os⟩) (show (2 : Int) < 3 by decide))
       go_wp2_with fail
       go_quiet (fail)
       go_wp2_with fail
       go_roundw
       case rel => exact ⟨a, by go_num, by omega, Lib.hid (by rw [HP.out, HPn.out, if_neg (by rw [HLE.out]; decide)]), Lib.hid ⟨HX.out.1, HX.out.2.drewN _⟩⟩
       case measure => simp [intOf]
      ·rcases hq : lessS xs os with _ | _
       ·have HLE : Hid (leK ⟨3, on, os⟩ ⟨3, xn, xs⟩ = true) := Lib.hid (by rw [leK_txt (a := ⟨3, xn, xs⟩) (b := ⟨3, on, os⟩) rfl rfl, hq]; rfl)
        have hless : ∀ W, Calls Tryz.prog 126 #[.string xs, .string os] W fun e w2 => e = .returned (.bool false) ∧ ∃ n, w2 = W.drewN n := fun W => by rw [← hq]; exact rless_any xs os W hzx hzo
        clear hq
        go_wp2_with fail
        go_quiet ((go_at_call 126; exact Calls.quiet_of (hless _)))
        go_wp2_with fail
        go_meet
        exact ⟨by first | (rw [HP.out, HPn.out, if_pos HLE.out]; done) | (rw [HP.out, HPn.out, if_pos HLE.out]; rfl), Lib.hid ⟨HX.out.1, HX.out.2.drewN _⟩⟩
       ·have HLE : Hid (leK ⟨3, on, os⟩ ⟨3, xn, xs⟩ = false) := Lib.hid (by rw [leK_txt (a := ⟨3, xn, xs⟩) (b := ⟨3, on, os⟩) rfl rfl, hq]; rfl)
        have hless : ∀ W, Calls Tryz.prog 126 #[.string xs, .string os] W fun e w2 => e = .returned (.bool true) ∧ ∃ n, w2 = W.drewN n := fun W => by rw [← hq]; exact rless_any xs os W hzx hzo
        clear hq
        go_wp2_with fail
        go_quiet ((go_at_call 126; exact Calls.quiet_of (hless _)))
        go_wp2_with fail
        go_roundw
        case rel => exact ⟨a, by go_num, by omega, Lib.hid (by rw [HP.out, HPn.out, if_neg (by rw [HLE.out]; decide)]), Lib.hid ⟨HX.out.1, HX.out.2.drewN _⟩⟩
        case measure => simp [intOf]
   case rest =>
    obtain ⟨rfl, HC⟩ := hcut
    obtain ⟨wx, rfl⟩ : ∃ wx : World, wx = wc := ⟨_, rfl⟩
    obtain ⟨P, hP⟩ : ∃ P, P = posK ⟨xk, xn, xs⟩ O j := ⟨_, rfl⟩
    have hPj : P ≤ j := by rw [hP]; exact posK_le _ _ _
    rw [← hP]
    have hPP := Lib.hid hP
    clear hP
    go_upto_region 12 with (fail)
    have hz8 : wx.heap.size = wr.heap.size + 1 := by rw [HC.out.1]; exact z8
    have hx1 : w1.heap.size ≤ wx.heap.size := HC.out.2.le
    have HRx : Hid (RowB wx w1.heap.size (.slice qo (j : Nat) co) O) := Lib.hid (own_of_heap HR8.out fun k _ _ => by rw [HC.out.1])
    have kB : Blk wx wr.heap.size 26 #[.int .i64 xk, .int .i64 xn, .string xs] := by
     unfold Blk
     rw [HC.out.1]
     exact HK8.out
    have b0 : wx.cell? ⟨wr.heap.size, 0, none⟩ = some (.int .i64 xk) := kB.cell 0
    have b1 : wx.cell? ⟨wr.heap.size, 1, none⟩ = some (.int .i64 xn) := kB.cell 1
    have b2 : wx.cell? ⟨wr.heap.size, 2, none⟩ = some (.string xs) := kB.cell 2
    obtain ⟨hco, hsrc⟩ := row_part HRx.out P (by rw [HOJ.out]; exact hPj)
    have hPco : P ≤ co := by have := HOJ.out; omega
    have hPcoI : (P : Int) ≤ (co : Int) := by omega
    have hlenO : (O.take P).length = P := by rw [List.length_take, HOJ.out]; omega
    have hqo : qo = none → co = 0 := row_nil HRx.out
    obtain ⟨vA1, wA1, rA1, oA1, gA1, lA1⟩ := app_part wx.drew 35 wx.heap.size (.slice none 0 0) [] (O.take P) qo P co hlenO.symm (hsrc wx.drew (fun k _ => rfl)).1 hqo (World.ownsRow_nil _ _ _ _) (Nat.le_refl _) (by rw [hlenO]; simp; omega)
    have eA1 : Ext wx wA1 := Ext.grown (Ext.refl wx).drew gA1 (fun z hz => by simp [Value.ownBlock] at hz)
    obtain ⟨vA2, wA2, rA2, oA2, gA2, lA2⟩ := app_own (wA1.alloc (.cells #[.int .i64 xk, .int .i64 xn, .string xs] 26)) 35 wx.heap.size wA1.heap.size vA1 (O.take P) ⟨xk, xn, xs⟩ (Blk.new wA1 _ _) (own_ext oA1 ((Ext.refl wA1).alloc _)) (by rw [size_alloc]; have := eA1.le; omega) (by omega)
    have eA2 : Ext wx wA2 := (eA1.alloc _).grown gA2 (fun z hz => (oA1.lt z hz).1)
    have eB0 : Ext wx (wx.alloc (.cells #[.int .i64 xk, .int .i64 xn, .string xs] 26)).drew := ((Ext.refl wx).alloc _).drew
    obtain ⟨vB1, wB1, rB1, oB1, gB1, lB1⟩ := app_part (wx.alloc (.cells #[.int .i64 xk, .int .i64 xn, .string xs] 26)).drew 35 wx.heap.size (.slice none 0 0) [] (O.take P) qo P co hlenO.symm (hsrc (wx.alloc (.cells #[.int .i64 xk, .int .i64 xn, .string xs] 26)).drew (fun k hk => eB0.block k hk)).1 hqo (World.ownsRow_nil _ _ _ _) eB0.le (by rw [hlenO]; simp; omega)
    have eB1 : Ext wx wB1 := Ext.grown eB0 gB1 (fun z hz => by simp [Value.ownBlock] at hz)
    obtain ⟨vB2, wB2, rB2, oB2, gB2, lB2⟩ := app_own wB1 35 wx.heap.size wx.heap.size vB1 (O.take P) ⟨xk, xn, xs⟩ ((Blk.new wx 26 _).drew.grown gB1 (fun z hz => by simp [Value.ownBlock] at hz)) oB1 eB1.le (by omega)
    have eB2 : Ext wx wB2 := eB1.grown gB2 (fun z hz => (oB1.lt z hz).1)
    have hkb : wr.heap.size < wx.heap.size := by omega
    have bA0 : wA1.cell? ⟨wr.heap.size, 0, none⟩ = some (.int .i64 xk) := (eA1.cells.1 _ _ hkb).trans b0
    have bA1 : wA1.cell? ⟨wr.heap.size, 1, none⟩ = some (.int .i64 xn) := (eA1.cells.1 _ _ hkb).trans b1
    have bA2 : wA1.cell? ⟨wr.heap.size, 2, none⟩ = some (.string xs) := (eA1.cells.1 _ _ hkb).trans b2
    have bB0 : wB1.cell? ⟨wr.heap.size, 0, none⟩ = some (.int .i64 xk) := (eB1.cells.1 _ _ hkb).trans b0
    have bB1 : wB1.cell? ⟨wr.heap.size, 1, none⟩ = some (.int .i64 xn) := (eB1.cells.1 _ _ hkb).trans b1
    have bB2 : wB1.cell? ⟨wr.heap.size, 2, none⟩ = some (.string xs) := (eB1.cells.1 _ _ hkb).trans b2
    obtain ⟨qA, cA, eA⟩ := oA2.at0.slice
    obtain ⟨qB, cB, eB⟩ := oB2.at0.slice
    rw [List.length_append, hlenO] at eA eB
    replace eA : vA2 = .slice qA (P + 1) cA := eA
    replace eB : vB2 = .slice qB (P + 1) cB := eB
    subst eA eB
    have RA1 := Lib.hid rA1
    have RA2 := Lib.hid rA2
    have RB1 := Lib.hid rB1
    have RB2 := Lib.hid rB2
    have OA := Lib.hid (And.intro eA2 oA2)
    have OB := Lib.hid (And.intro eB2 oB2)
    have HSR := Lib.hid hsrc
    have HQO := Lib.hid hqo
    clear hz8 hkb hlenO hco hx1 rA1 rA2 rB1 rB2 oA1 oA2 oB1 oB2 gA1 gA2 gB1 gB2 lA1 lA2 lB1 lB2 eA1 eA2 eB0 eB1 eB2 hsrc hqo kB
    go_cut [12] (fun s12 wy => ∃ q c, s12 = .slice q (P + 1 : Nat) c ∧ Hid (Ext wx wy ∧ RowB wy wx.heap.size (.slice q (P + 1 : Nat) c) (O.take P ++ [⟨xk, xn, xs⟩])))
    case first =>
     go_region_law (first
      | (refine step_append_run rfl _ _ 35 rfl _ _ _ _ rfl rfl RA1.out ?_)
      | (refine step_append_run rfl _ _ 35 rfl _ _ _ _ rfl rfl RA2.out ?_)
      | (refine step_append_run rfl _ _ 35 rfl _ _ _ _ rfl rfl RB1.out ?_)
      | (refine step_append_run rfl _ _ 35 rfl _ _ _ _ rfl rfl RB2.out ?_))
     all_goals (
      go_wp2_with fail
      go_meet
      first
       | exact ⟨_, _, rfl, OA⟩
       | exact ⟨_, _, rfl, OB⟩)
    case rest =>
     obtain ⟨qm, cm, rfl, HM⟩ := hcut
     obtain ⟨wm, rfl⟩ : ∃ wm : World, wm = wc := ⟨_, rfl⟩
     have hjP : (P : Int) ≤ (j : Int) := by omega
     have hwx : wx.heap.size ≤ wm.heap.size := HM.out.1.le
     have hS := (HSR.out wm (fun k hk => HM.out.1.block k hk)).2
     rw [HOJ.out] at hS
     have hdl : (O.drop P).length = j - P := by rw [List.length_drop, HOJ.out]
     have hfin : insK ⟨xk, xn, xs⟩ O = O.take P ++ [⟨xk, xn, xs⟩] ++ O.drop P := by
      unfold insK
      rw [HOJ.out, ← hPP.out, List.append_assoc]
      rfl
     have HFIN := Lib.hid hfin
     have hml : (O.take P ++ [(⟨xk, xn, xs⟩ : Vl)]).length = P + 1 := by rw [List.length_append, List.length_take, HOJ.out, Nat.min_eq_left hPj]; rfl
     have hx2 : w1.heap.size ≤ wx.heap.size := HC.out.2.le
     have hE1 : Ext w1 wm := HC.out.2.trans HM.out.1
     have fin : ∀ (p : Option Addr) (n c : Nat), n = j - P → c = co - P → (j - P = 0 ∨ ∃ b o, p = some ⟨b, o, none⟩ ∧ ∀ k u, (flat (O.drop P))[k]? = some u → wm.cell? ⟨b, o + k, none⟩ = some u) → (p = none → co - P = 0) →
       ∃ v' w', AppRuns Tryz.prog 35 35 (.slice qm (P + 1 : Nat) cm) (.slice p n c) wm v' w' ∧ RowB w' w1.heap.size v' (sofar L (j + 1)) ∧ Ext w1 w' := fun p n c en ec hc hp => by
      subst en ec
      obtain ⟨v', w', a1, a2, a3, _⟩ := app_part wm 35 wx.heap.size (.slice qm (P + 1 : Nat) cm) (O.take P ++ [⟨xk, xn, xs⟩]) (O.drop P) p (j - P) (co - P) hdl.symm hc hp HM.out.2 hwx (by rw [hml, hdl]; omega)
      refine ⟨v', w', a1, ?_, hE1.grown a3 (fun z hz => Nat.le_trans hx2 (HM.out.2.lt z hz).1)⟩
      rw [HSU.out, HFIN.out]
      exact RowB.lower a2 hx2
     have FIN := Lib.hid fin
     have HS := Lib.hid hS
     clear hS hdl hfin hml fin hE1 b0 b1 b2 bA0 bA1 bA2 bB0 bB1 bB2
     cases qo with
     | none =>
      have hco0 : co = 0 := HQO.out rfl
      subst hco0
      have hP0 : P = 0 := by omega
      have hj0 : j = 0 := by
       rcases HRx.out.2 with ⟨_, h0⟩ | ⟨g, cap, cur, e, _⟩
       ·rw [HOJ.out] at h0; exact h0
       ·injection e with e _ _; cases e
      obtain ⟨v', w', a1, a2, a3⟩ := FIN.out none 0 0 (by omega) (by omega) (.inl (by omega)) (fun _ => by omega)
      have A1 := Lib.hid a1
      have A2 := Lib.hid (And.intro a3 a2)
      clear a1 a2 a3
      subst hP0
      subst hj0
      go_wp2_with (at_builtin; refine wpList_append_runs rfl _ _ 35 rfl _ _ _ _ rfl rfl A1.out ?_)
      go_roundw
      case rel => exact ⟨1, by go_num, by omega, A2⟩
      case measure => simp [intOf]; omega
     | some q =>
      obtain ⟨b, hqb⟩ : ∃ b, q = ⟨b, 0, none⟩ := by
       rcases HRx.out.2 with ⟨e, _⟩ | ⟨g, cap, cur, e, _⟩
       ·injection e
        rename_i e _ _
        cases e
       ·injection e with e _ _
        injection e with e
        exact ⟨g, e⟩
      subst hqb
      by_cases hcp : co = P
      ·have hjq : j ≤ co := by have := (row_part HRx.out 0 (Nat.zero_le _)).1; rw [HOJ.out] at this; exact this
       obtain ⟨v', w', a1, a2, a3⟩ := FIN.out (some ⟨b, 0, none⟩) 0 0 (by omega) (by omega) (.inl (by have := row_part HRx.out P (by rw [HOJ.out]; exact hPj); have := this.1; rw [HOJ.out] at this; omega)) (fun h => by cases h)
       have A1 := Lib.hid a1
       have A2 := Lib.hid (And.intro a3 a2)
       have hjP3 : j = P := by omega
       clear a1 a2 a3
       subst hcp
       subst hjP3
       go_wp2_with (at_builtin; refine wpList_append_runs rfl _ _ 35 rfl _ _ _ _ rfl rfl A1.out ?_)
       go_roundw
       case rel => exact ⟨j + 1, by go_num, by omega, A2⟩
       case measure => simp [intOf]; omega
      ·obtain ⟨v', w', a1, a2, a3⟩ := FIN.out (some ⟨b, P * 3, none⟩) (j - P) (co - P) rfl rfl (by
        rcases HS.out with h | ⟨b', o', e, h⟩
        ·exact .inl h
        ·injection e with e
         injection e with e1 e2
         subst e1 e2
         exact .inr ⟨b, P * 3, rfl, fun k u hu => by have := h k u hu; rwa [Nat.zero_add] at this⟩) (fun h => by cases h)
       have A1 := Lib.hid a1
       have A2 := Lib.hid (And.intro a3 a2)
       clear a1 a2 a3
       go_wp2_with (at_builtin; refine wpList_append_runs rfl _ _ 35 rfl _ _ _ _ rfl rfl A1.out ?_)
       go_roundw
       case rel => exact ⟨j + 1, by go_num, by omega, A2⟩
       case measure => simp [intOf]; omega
  ·have hjl : j = L.length := by omega
   have hd : decide ((j : Int) < (L.length : Int)) = false := by rw [decide_eq_false_iff_not]; omega
   have hd' : decide (j < L.length) = false := by rw [decide_eq_false_iff_not]; omega
   have HJ := Lib.hid hjl
   clear hjl
   go_wp2_with fail
   go_ret2
   refine ⟨u8, rfl, ?_, K1.out.trans HW.out.1⟩
   have e : sofar L j = keysL T := by
    rw [HJ.out]
    unfold sofar
    rw [List.take_length]
    exact keysR_eq L1.out HTb.out
   rw [← e]
   exact HW.out.2.lower hw1
end Go.Proofs.YtfagldjhibdfhaaGreatDoor
