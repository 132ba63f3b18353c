/- The document's heap behind a deed. A value is put under a key, by the document's heap. -/
import Derived.Test.YtlfihdcgbhdajaaGreatDoorYD1
namespace Go.Proofs.YtlfihdcgbhdajaaGreatDoor
open Go.RowKit
set_option linter.unusedVariables false
set_option linter.unusedSimpArgs false

section
variable {w w' : World} {g : Nat} {tv : Value} {R : Hp}
theorem RHeapIn.hrow (h : RHeapIn w g tv R) : tv.ownBlock ≠ some g := by
 intro e
 have h1 := h.head
 obtain ⟨rows, ⟨hl, hrow⟩, _⟩ := h.rows
 rcases hrow with ⟨h2, _⟩ | ⟨gb, cap, cur, e1, hb, hc, h2⟩
 ·rw [h2] at e; simp [Value.ownBlock] at e
 ·rw [e1] at e
  obtain rfl : gb = g := Option.some.inj e
  unfold RB Blk at h1
  rw [hc] at h1
  have := Option.some.inj h1
  injection this with _ h3
  exact absurd h3 (by decide)
theorem RHeapIn.only (h : RHeapIn w g tv R) (ho : Only g w w') (c s : Int) (hb : RB w' g tv c s) (hs : 0 ≤ s) (hc : s ≤ c) (hm : c ≤ 9223372036854775807) : RHeapIn w' g tv ⟨R.tabs, c, s⟩ := by
 have hrow0 := h.hrow
 have hgl := h.head
 obtain ⟨rows, ⟨hl, hrow⟩, h2, h3⟩ := h.rows
 have keep : ∀ k, k < w.heap.size → k ≠ g → w'.heap[k]? = w.heap[k]? := fun k hk hn => ho.block k hk (fun e => hn (Option.some.inj e))
 have rowk : ∀ (v : Value) (l : List Vl), RowAt w v l → RowAt w' v l := fun v l hr => hr.of_heap fun k hk => by
  obtain ⟨hlt, cs, hc'⟩ := hr.lt k hk
  refine keep k hlt ?_
  rintro rfl
  unfold RB Blk at hgl
  rw [hc'] at hgl
  have := Option.some.inj hgl
  injection this with _ h3
  exact absurd h3 (by decide)
 refine ⟨hb, ⟨rows, ⟨hl, ?_⟩, h2, fun i r T hr hT => ?_⟩, ⟨h.ok.tab, hs, hc, hm⟩⟩
 ·rcases hrow with h1 | ⟨gb, cap, cur, e1, hb', hc', hq⟩
  ·exact .inl h1
  ·refine .inr ⟨gb, cap, cur, e1, hb', (keep gb (lt_of_block hc') ?_).trans hc', hq⟩
   rintro rfl
   exact hrow0 (by rw [e1]; rfl)
 ·obtain ⟨L, l1, l2, l3⟩ := h3 i r T hr hT
  exact ⟨L, l1, rowk _ _ l2, rowk _ _ l3⟩
theorem rrowOf_len (l : List (Value × Value)) : (rrowOf l).length = l.length * 2 := by
 induction l with
 | nil => rfl
 | cons x l ih => simp only [rrowOf, List.flatMap_cons, List.length_append, List.length_cons, List.length_nil] at ih ⊢; omega
theorem rrowOf_set : ∀ (l : List (Value × Value)) (i : Nat) (r : Value × Value), i < l.length → rrowOf (l.set i r) = ((rrowOf l).set (i * 2) r.1).set (i * 2 + 1) r.2
 | [], i, r, h => by simp at h
 | x :: l, 0, r, h => by simp [rrowOf]
 | x :: l, i + 1, r, h => by
  have ih := rrowOf_set l i r (by simpa using h)
  have e : (i + 1) * 2 = i * 2 + 1 + 1 := by omega
  rw [e]
  simp only [List.set_cons_succ, rrowOf, List.flatMap_cons, List.cons_append, List.nil_append, List.set_cons_succ] at ih ⊢
  rw [ih]
theorem take_set {α : Type} (l : List α) (n i : Nat) (x : α) : (l.set i x).take n = (l.take n).set i x := by simp [List.take_set]
theorem RHeapIn.at_row (h : RHeapIn w g tv R) {i gb cap : Nat} (hi : i < R.tabs.length) (htv : tv = .slice (some ⟨gb, 0, none⟩) R.tabs.length cap) (kv vv : Value) (L T' : Tb) (hrep : TRow L T') (hk : RowAt w kv (L.map (·.1))) (hv : RowAt w vv (L.map (·.2))) (hok : TbOk T') :
  RHeapIn ((w.setCell ⟨gb, i * 2, none⟩ kv).setCell ⟨gb, i * 2 + 1, none⟩ vv) g tv ⟨R.tabs.set i T', R.cells, R.spent⟩ := by
 have hrow0 := h.hrow
 rw [htv] at hrow0
 have hg0 : gb ≠ g := fun e => hrow0 (by rw [e]; rfl)
 obtain ⟨rows, ⟨hl, hrow⟩, h2, h3⟩ := h.rows
 have far : ∀ k, k ≠ gb → ((w.setCell ⟨gb, i * 2, none⟩ kv).setCell ⟨gb, i * 2 + 1, none⟩ vv).heap[k]? = w.heap[k]? := fun k hn =>
  (Below.heap_setCell _ _ _ k hn).trans (Below.heap_setCell _ _ _ k hn)
 have isRow : ∃ cur, w.heap[gb]? = some (.cells cur 91 (0, 0)) ∧ R.tabs.length ≤ cap ∧ cap ≤ maxLen ∧ cur.size = cap * 2 ∧ cur.toList.take (R.tabs.length * 2) = rrowOf rows := by
  rcases hrow with ⟨h1, h0⟩ | ⟨gb', cap', cur, e1, hb', hc', hq1, hq2, hq3, hq4⟩
  ·omega
  ·rw [htv] at e1
   injection e1 with e1 _ e3
   injection e1 with e1
   injection e1 with e1
   subst e1
   subst e3
   exact ⟨cur, hc', hq1, hq2, hq3, hq4⟩
 obtain ⟨cur, hc', hq1, hq2, hq3, hq4⟩ := isRow
 have rowk : ∀ (v : Value) (l : List Vl), RowAt w v l → RowAt ((w.setCell ⟨gb, i * 2, none⟩ kv).setCell ⟨gb, i * 2 + 1, none⟩ vv) v l := fun v l hr => hr.of_heap fun k hk => by
  obtain ⟨hlt, cs, hcs⟩ := hr.lt k hk
  refine far k ?_
  rintro rfl
  rw [hc'] at hcs
  have := Option.some.inj hcs
  injection this with _ h3
  exact absurd h3 (by decide)
 have hB : Blk w gb 91 cur := hc'
 have hB2 := (hB.set_ (i * 2) kv).set_ (i * 2 + 1) vv
 refine ⟨(far g (Ne.symm hg0)).trans h.head, ⟨rows.set i (kv, vv), ⟨?_, .inr ⟨gb, cap, _, ?_, Nat.zero_le _, hB2, ?_, hq2, ?_, ?_⟩⟩, ?_, fun j r T hr hT => ?_⟩, ⟨fun T hT => ?_, h.ok.low, h.ok.le, h.ok.most⟩⟩
 ·rw [rrowOf_len, List.length_set, h2]; simp
 ·rw [htv]; simp
 ·simpa using hq1
 ·simpa using hq3
 ·show ((cur.setIfInBounds (i * 2) kv).setIfInBounds (i * 2 + 1) vv).toList.take ((R.tabs.set i T').length * 2) = _
  rw [List.length_set, Array.toList_setIfInBounds, Array.toList_setIfInBounds, take_set, take_set, hq4, rrowOf_set rows i (kv, vv) (by omega)]
 ·rw [List.length_set, h2]; simp
 ·by_cases hij : i = j
  ·subst hij
   have e1 : (rows.set i (kv, vv))[i]? = some (kv, vv) := by simp [show i < rows.length by omega]
   have e2 : (R.tabs.set i T')[i]? = some T' := by simp [hi]
   rw [e1] at hr
   obtain rfl := Option.some.inj hr
   rw [show (Hp.mk (R.tabs.set i T') R.cells R.spent).tabs = R.tabs.set i T' from rfl, e2] at hT
   obtain rfl := Option.some.inj hT
   exact ⟨L, hrep, rowk _ _ hk, rowk _ _ hv⟩
  ·rw [List.getElem?_set_ne hij] at hr
   rw [show (Hp.mk (R.tabs.set i T') R.cells R.spent).tabs = R.tabs.set i T' from rfl, List.getElem?_set_ne hij] at hT
   obtain ⟨L0, l1, l2, l3⟩ := h3 j r T hr hT
   exact ⟨L0, l1, rowk _ _ l2, rowk _ _ l3⟩
 ·rcases List.mem_or_eq_of_mem_set hT with hT | rfl
  ·exact h.ok.tab T hT
  ·exact hok
theorem RHeapIn.onlyNew {a : World} {Y : Nat} (h : RHeapIn a g tv R) (ho : Only Y a w) (hY : ∀ o, a.heap[Y]? = some o → False) : RHeapIn w g tv R :=
 h.of_heap fun k cs t hc _ => ho.block k (lt_of_block hc) (fun e => hY (.cells cs t (0, 0)) (by rw [← Option.some.inj e]; exact hc))
end
theorem drop1_take {L : Tb} {K : Vl} {j : Nat} (hj : j < L.length) : drop1 (L.take (j + 1)) K = if L[j].1 = K then drop1 (L.take j) K else drop1 (L.take j) K ++ [L[j]] := by
 unfold drop1
 rw [List.take_succ_eq_append_getElem hj, List.filter_append]
 by_cases h : L[j].1 = K
 ·rw [if_pos h]; simp [h]
 ·rw [if_neg h]; simp [h]
end Go.Proofs.YtlfihdcgbhdajaaGreatDoor
namespace Go.Proofs.YtlfihdcgbhdajaaGreatDoor
open Go.RowKit
set_option linter.unusedVariables false
set_option linter.unusedSimpArgs false

set_option maxRecDepth 100000 in
set_option maxHeartbeats 8000000 in
theorem rset_type (g : Nat) (tv : Value) (H : Hp) (t k v : Vl) (w : World) (h : RHeapIn w g tv H) (hlen : H.tabs.length ≤ 9223372036854775807) (hv : v.ck = false) :
  Calls Tryz.prog 60 #[.pointer (some ⟨g, 0, none⟩), t.v, k.v, v.v] w fun e w' => e = .returned (.string sType) ∧ Ext w w' := by
 have cG := fun W hW => rget_any g tv H t k W hW hlen
 obtain ⟨u, hu⟩ : ∃ u, getV H t k = u := ⟨_, rfl⟩
 obtain ⟨o, hw⟩ : ∃ o, getW H t k = o := ⟨_, rfl⟩
 simp only [hu, hw] at cG
 clear hu hw
 obtain ⟨uk, un, us⟩ := u
 have HI := Lib.hid h
 clear h hlen
 go_enter Tryz.func60, Tryz.ntmps60
 go_wp2_with fail
 refine (cG _ (HI.out.ext ((((Ext.refl w).alloc _).alloc _).alloc _))).mono ?_
 rintro e w1 ⟨rfl, e1⟩
 have k1 := ((((Ext.refl w).alloc _).alloc _).alloc _).trans e1
 obtain ⟨z1, z2, z3⟩ := e1.lt3
 obtain ⟨p1, p2⟩ := e1.cells
 clear cG
 go_wp2_with fail
 refine (rcheckV _ false hv _).mono ?_
 rintro e w2 ⟨rfl, e2⟩
 have k2 := (k1.alloc _).trans e2
 have y1 := e2.lt1
 have y2 : w.heap.size < w2.heap.size := by omega
 have y3 : w.heap.size + 1 < w2.heap.size := by omega
 have y4 : w.heap.size + 2 < w2.heap.size := by omega
 obtain ⟨q1, q2⟩ := e2.cells
 clear e1 e2
 go_wp2_with fail
 go_ret
 exact ⟨rfl, by repeat (first | exact k2 | refine Ext.alloc ?_ _ | refine Ext.setCell ?_ (by simp <;> omega) _)⟩
set_option maxRecDepth 100000 in
set_option maxHeartbeats 8000000 in
theorem rset_why (g : Nat) (tv : Value) (H : Hp) (t k v : Vl) (w : World) (h : RHeapIn w g tv H) (hlen : H.tabs.length ≤ 9223372036854775807) (hv : v.ck = true) (hn : ¬ (getW H t k).toList = []) :
  Calls Tryz.prog 60 #[.pointer (some ⟨g, 0, none⟩), t.v, k.v, v.v] w fun e w' => e = .returned (.string (getW H t k)) ∧ Ext w w' := by
 have cG := fun W hW => rget_any g tv H t k W hW hlen
 obtain ⟨u, hu⟩ : ∃ u, getV H t k = u := ⟨_, rfl⟩
 simp only [hu] at cG
 clear hu
 obtain ⟨uk, un, us⟩ := u
 have hn' : (getW H t k).toList.isEmpty = false := by simpa using hn
 generalize getW H t k = o at *
 have HI := Lib.hid h
 clear h hlen
 go_enter Tryz.func60, Tryz.ntmps60
 go_wp2_with fail
 refine (cG _ (HI.out.ext ((((Ext.refl w).alloc _).alloc _).alloc _))).mono ?_
 rintro e w1 ⟨rfl, e1⟩
 have k1 := ((((Ext.refl w).alloc _).alloc _).alloc _).trans e1
 obtain ⟨z1, z2, z3⟩ := e1.lt3
 obtain ⟨p1, p2⟩ := e1.cells
 clear cG
 go_wp2_with fail
 refine (rcheckV _ true hv _).mono ?_
 rintro e w2 ⟨rfl, e2⟩
 have k2 := (k1.alloc _).trans e2
 have y1 := e2.lt1
 have y2 : w.heap.size < w2.heap.size := by omega
 have y3 : w.heap.size + 1 < w2.heap.size := by omega
 have y4 : w.heap.size + 2 < w2.heap.size := by omega
 obtain ⟨q1, q2⟩ := e2.cells
 clear e1 e2
 go_wp2_with fail
 go_ret
 exact ⟨rfl, by repeat (first | exact k2 | refine Ext.alloc ?_ _ | refine Ext.setCell ?_ (by simp <;> omega) _)⟩
theorem set_same {H : Hp} {t k v : Vl} (hw : setW H t k v = sNone) (hf : (getV H t k).k = 0) (h0 : v.k = 0) (hH : HOk H) : setH H t k v = H := by
 obtain ⟨h1, h2, _⟩ := setW_none hw
 obtain ⟨g1, g2, g3⟩ := getW_none h2
 have ht := (ofW_none g2).2.2.2.2
 have hT := tabOf_ok hH ht
 have hb : freshB H t k v = false := by unfold freshB; simp [h0]
 have e : getV H t k = tget (tabOf H t) k := by unfold getV; rw [if_pos h2]
 rw [e, hT.some] at hf
 unfold setH
 rw [if_pos hw, if_neg (by rw [hb]; decide)]
 unfold tput
 rw [if_pos h0, mdel_gone _ _ hf]
 have : H.tabs.set t.n.toNat (tabOf H t) = H.tabs := by
  apply List.ext_getElem?
  intro j
  by_cases hj : t.n.toNat = j
  ·subst hj
   rw [tabOf_get ht]
   simp [ht]
  ·rw [List.getElem?_set_ne hj]
 rw [this]
set_option maxRecDepth 100000 in
set_option maxHeartbeats 8000000 in
theorem rset_none (g : Nat) (tv : Value) (H : Hp) (t k v : Vl) (w : World) (h : RHeapIn w g tv H) (hlen : H.tabs.length ≤ 9223372036854775807) (hv : v.ck = true) (hn : getW H t k = sNone) (hf : (getV H t k).k = 0) (h0 : v.k = 0) :
  Calls Tryz.prog 60 #[.pointer (some ⟨g, 0, none⟩), t.v, k.v, v.v] w fun e w' => e = .returned (.string sNone) ∧ Ext w w' := by
 have cG := fun W hW => rget_any g tv H t k W hW hlen
 obtain ⟨g1, g2, g3⟩ := getW_none hn
 have ho := fun W hW => rof_any g tv H t W hW hlen
 obtain ⟨o1, o2, o3, o4, o5⟩ := ofW_none g2
 have hnn : rofN H t = t.n := by unfold rofN; rw [if_pos g2]
 rw [hnn, g2] at ho
 have HT := Lib.hid (tabOf_get o5)
 have hOK := h.ok
 have hTb := tabOf_ok hOK o5
 have hmost := hTb.most
 have HTb := Lib.hid hTb
 have hs0 := sNone_list
 have hs1 : sNone.toList.isEmpty = true := by rw [hs0]; rfl
 have b1 := hOK.low
 have b2 := hOK.le
 have b3 := hOK.most
 obtain ⟨u, hu⟩ : ∃ u, getV H t k = u := ⟨_, rfl⟩
 rw [hu] at hf
 simp only [hu, hn] at cG
 have HU := Lib.hid hu
 have HN := Lib.hid hn
 clear g1 g2 g3 hu hn hnn hOK hTb
 obtain ⟨uk, un, us⟩ := u
 simp only at hf
 obtain ⟨tk0, i, ts⟩ := t
 simp only at o1 o2 o3 o4 o5 HT ho
 obtain ⟨i, rfl⟩ : ∃ j : Nat, i = j := ⟨i.toNat, by omega⟩
 subst o2
 rw [Int.toNat_natCast] at HT o5
 subst hf
 obtain ⟨vk, vn, vs⟩ := v
 simp only at h0
 subst h0
 have HI := Lib.hid h
 clear h hlen
 go_enter Tryz.func60, Tryz.ntmps60
 go_wp2_with fail
 refine (cG _ (HI.out.ext ((((Ext.refl w).alloc _).alloc _).alloc _))).mono ?_
 rintro e w1 ⟨rfl, e1⟩
 have k1 := ((((Ext.refl w).alloc _).alloc _).alloc _).trans e1
 obtain ⟨z1, z2, z3⟩ := e1.lt3
 obtain ⟨p1, p2⟩ := e1.cells
 clear cG
 go_wp2_with fail
 refine (rcheckV _ true hv _).mono ?_
 rintro e w2 ⟨rfl, e2⟩
 have k2 := (k1.alloc _).trans e2
 have y1 := e2.lt1
 have y2 : w.heap.size < w2.heap.size := by omega
 have y3 : w.heap.size + 1 < w2.heap.size := by omega
 have y4 : w.heap.size + 2 < w2.heap.size := by omega
 obtain ⟨q1, q2⟩ := e2.cells
 clear e1 e2
 go_wp2_with fail
 refine (ho _ (HI.out.ext k2)).mono ?_
 rintro e w3 ⟨rfl, e3⟩
 have k3 := k2.trans e3
 have j1 : w1.heap.size < w3.heap.size := by have := e3.le; omega
 have j2 : w.heap.size < w3.heap.size := by omega
 have j3 : w.heap.size + 1 < w3.heap.size := by omega
 have j4 : w.heap.size + 2 < w3.heap.size := by omega
 obtain ⟨r1, r2⟩ := e3.cells
 obtain ⟨rows, hrow, hrl, hrt⟩ := (HI.out.ext k3).rows
 have hir : i < rows.length := by omega
 obtain ⟨r, hr⟩ : ∃ r, rows[i]? = some r := ⟨_, List.getElem?_eq_getElem hir⟩
 have HR := Lib.hid hr
 obtain ⟨gb, cap, e0, hgb, c1, c2⟩ := rrow_cells hrow i _ HR.out
 obtain ⟨L, l1, l2, l3⟩ := hrt i _ _ HR.out HT.out
 have hcl := l1.count
 obtain ⟨qk, ck, ek⟩ := l2.slice
 obtain ⟨qv, cv, ev⟩ := l3.slice
 have c0 : w3.cell? ⟨g, 0, none⟩ = some tv := (HI.out.ext k3).head.cell 0
 rw [List.length_map] at ek ev
 rw [ek] at c1 l2
 rw [ev] at c2 l3
 rw [e0] at c0
 have L1 := Lib.hid l1
 have L2 := Lib.hid l2
 have L3 := Lib.hid l3
 have hgl : g < w3.heap.size := (HI.out.ext k3).head.lt
 have E0 := Lib.hid e0
 have EK := Lib.hid ek
 have EV := Lib.hid ev
 have HRows := Lib.hid (And.intro hrow (And.intro hrl hrt))
 clear ho e3 hrow hrl hrt hir hr e0 l1 l2 l3 ek ev
 go_wp2_with fail
 go_ret
 exact ⟨rfl, by repeat (first | exact k3 | refine Ext.alloc ?_ _ | refine Ext.setCell ?_ (by simp <;> omega) _)⟩
set_option maxRecDepth 100000 in
set_option maxHeartbeats 8000000 in
theorem rset_long (g : Nat) (tv : Value) (H : Hp) (t k v : Vl) (w : World) (h : RHeapIn w g tv H) (hlen : H.tabs.length ≤ 9223372036854775807) (hv : v.ck = true) (hn : getW H t k = sNone) (hf : (getV H t k).k = 0) (h0 : ¬ v.k = 0) (hl : 65536 ≤ (tabOf H t).length) :
  Calls Tryz.prog 60 #[.pointer (some ⟨g, 0, none⟩), t.v, k.v, v.v] w fun e w' => e = .returned (.string sLong) ∧ Ext w w' := by
 have cG := fun W hW => rget_any g tv H t k W hW hlen
 obtain ⟨g1, g2, g3⟩ := getW_none hn
 have ho := fun W hW => rof_any g tv H t W hW hlen
 obtain ⟨o1, o2, o3, o4, o5⟩ := ofW_none g2
 have hnn : rofN H t = t.n := by unfold rofN; rw [if_pos g2]
 rw [hnn, g2] at ho
 have HT := Lib.hid (tabOf_get o5)
 have hOK := h.ok
 have hTb := tabOf_ok hOK o5
 have hmost := hTb.most
 have HTb := Lib.hid hTb
 have hs0 := sNone_list
 have hs1 : sNone.toList.isEmpty = true := by rw [hs0]; rfl
 have b1 := hOK.low
 have b2 := hOK.le
 have b3 := hOK.most
 obtain ⟨u, hu⟩ : ∃ u, getV H t k = u := ⟨_, rfl⟩
 rw [hu] at hf
 simp only [hu, hn] at cG
 have HU := Lib.hid hu
 have HN := Lib.hid hn
 clear g1 g2 g3 hu hn hnn hOK hTb
 obtain ⟨uk, un, us⟩ := u
 simp only at hf
 obtain ⟨tk0, i, ts⟩ := t
 simp only at o1 o2 o3 o4 o5 HT ho
 obtain ⟨i, rfl⟩ : ∃ j : Nat, i = j := ⟨i.toNat, by omega⟩
 subst o2
 rw [Int.toNat_natCast] at HT o5
 subst hf
 obtain ⟨vk, vn, vs⟩ := v
 simp only at h0
 have h0' : (vk == 0) = false := by simpa using h0
 clear h0
 have HI := Lib.hid h
 clear h hlen
 go_enter Tryz.func60, Tryz.ntmps60
 go_wp2_with fail
 refine (cG _ (HI.out.ext ((((Ext.refl w).alloc _).alloc _).alloc _))).mono ?_
 rintro e w1 ⟨rfl, e1⟩
 have k1 := ((((Ext.refl w).alloc _).alloc _).alloc _).trans e1
 obtain ⟨z1, z2, z3⟩ := e1.lt3
 obtain ⟨p1, p2⟩ := e1.cells
 clear cG
 go_wp2_with fail
 refine (rcheckV _ true hv _).mono ?_
 rintro e w2 ⟨rfl, e2⟩
 have k2 := (k1.alloc _).trans e2
 have y1 := e2.lt1
 have y2 : w.heap.size < w2.heap.size := by omega
 have y3 : w.heap.size + 1 < w2.heap.size := by omega
 have y4 : w.heap.size + 2 < w2.heap.size := by omega
 obtain ⟨q1, q2⟩ := e2.cells
 clear e1 e2
 go_wp2_with fail
 refine (ho _ (HI.out.ext k2)).mono ?_
 rintro e w3 ⟨rfl, e3⟩
 have k3 := k2.trans e3
 have j1 : w1.heap.size < w3.heap.size := by have := e3.le; omega
 have j2 : w.heap.size < w3.heap.size := by omega
 have j3 : w.heap.size + 1 < w3.heap.size := by omega
 have j4 : w.heap.size + 2 < w3.heap.size := by omega
 obtain ⟨r1, r2⟩ := e3.cells
 obtain ⟨rows, hrow, hrl, hrt⟩ := (HI.out.ext k3).rows
 have hir : i < rows.length := by omega
 obtain ⟨r, hr⟩ : ∃ r, rows[i]? = some r := ⟨_, List.getElem?_eq_getElem hir⟩
 have HR := Lib.hid hr
 obtain ⟨gb, cap, e0, hgb, c1, c2⟩ := rrow_cells hrow i _ HR.out
 obtain ⟨L, l1, l2, l3⟩ := hrt i _ _ HR.out HT.out
 have hcl := l1.count
 have hl1 : decide ((65536 : Int) ≤ (L.length : Int)) = true := by rw [decide_eq_true_eq]; omega
 have hl2 : decide (65536 ≤ L.length) = true := by rw [decide_eq_true_eq]; omega
 have hl3 : L.length ≤ 65536 := by omega
 clear hl
 obtain ⟨qk, ck, ek⟩ := l2.slice
 obtain ⟨qv, cv, ev⟩ := l3.slice
 have c0 : w3.cell? ⟨g, 0, none⟩ = some tv := (HI.out.ext k3).head.cell 0
 rw [List.length_map] at ek ev
 rw [ek] at c1 l2
 rw [ev] at c2 l3
 rw [e0] at c0
 have L1 := Lib.hid l1
 have L2 := Lib.hid l2
 have L3 := Lib.hid l3
 have hgl : g < w3.heap.size := (HI.out.ext k3).head.lt
 have E0 := Lib.hid e0
 have EK := Lib.hid ek
 have EV := Lib.hid ev
 have HRows := Lib.hid (And.intro hrow (And.intro hrl hrt))
 clear ho e3 hrow hrl hrt hir hr e0 l1 l2 l3 ek ev
 go_wp2_with fail
 go_ret
 exact ⟨rfl, by repeat (first | exact k3 | refine Ext.alloc ?_ _ | refine Ext.setCell ?_ (by simp <;> omega) _)⟩
set_option maxRecDepth 100000 in
set_option maxHeartbeats 8000000 in
theorem rset_mem (g : Nat) (tv : Value) (H : Hp) (t k v : Vl) (w : World) (h : RHeapIn w g tv H) (hlen : H.tabs.length ≤ 9223372036854775807) (hv : v.ck = true) (hn : getW H t k = sNone) (hf : (getV H t k).k = 0) (h0 : ¬ v.k = 0) (hl : (tabOf H t).length < 65536) (hm : ¬ 1 ≤ H.cells - H.spent) :
  Calls Tryz.prog 60 #[.pointer (some ⟨g, 0, none⟩), t.v, k.v, v.v] w fun e w' => e = .returned (.string sMemory) ∧ RHeapIn w' g tv H ∧ Touch (RFoot g tv) w w' := by
 have cG := fun W hW => rget_any g tv H t k W hW hlen
 obtain ⟨g1, g2, g3⟩ := getW_none hn
 have ho := fun W hW => rof_any g tv H t W hW hlen
 obtain ⟨o1, o2, o3, o4, o5⟩ := ofW_none g2
 have hnn : rofN H t = t.n := by unfold rofN; rw [if_pos g2]
 rw [hnn, g2] at ho
 have HT := Lib.hid (tabOf_get o5)
 have hOK := h.ok
 have hTb := tabOf_ok hOK o5
 have hmost := hTb.most
 have HTb := Lib.hid hTb
 have hs0 := sNone_list
 have hs1 : sNone.toList.isEmpty = true := by rw [hs0]; rfl
 have b1 := hOK.low
 have b2 := hOK.le
 have b3 := hOK.most
 obtain ⟨u, hu⟩ : ∃ u, getV H t k = u := ⟨_, rfl⟩
 rw [hu] at hf
 simp only [hu, hn] at cG
 have HU := Lib.hid hu
 have HN := Lib.hid hn
 clear g1 g2 g3 hu hn hnn hOK hTb
 obtain ⟨uk, un, us⟩ := u
 simp only at hf
 obtain ⟨tk0, i, ts⟩ := t
 simp only at o1 o2 o3 o4 o5 HT ho
 obtain ⟨i, rfl⟩ : ∃ j : Nat, i = j := ⟨i.toNat, by omega⟩
 subst o2
 rw [Int.toNat_natCast] at HT o5
 subst hf
 obtain ⟨vk, vn, vs⟩ := v
 simp only at h0
 have h0' : (vk == 0) = false := by simpa using h0
 have h1' : (vk != 0) = true := by simpa using h0
 clear h0
 have htk : tkB H.cells H.spent 1 = false := (tkB_no hm).symm
 have htc : tk H.cells H.spent 1 = H.spent := tk_no hm
 clear hm
 have HI := Lib.hid h
 clear h hlen
 go_enter Tryz.func60, Tryz.ntmps60
 go_wp2_with fail
 refine (cG _ (HI.out.ext ((((Ext.refl w).alloc _).alloc _).alloc _))).mono ?_
 rintro e w1 ⟨rfl, e1⟩
 have k1 := ((((Ext.refl w).alloc _).alloc _).alloc _).trans e1
 obtain ⟨z1, z2, z3⟩ := e1.lt3
 obtain ⟨p1, p2⟩ := e1.cells
 clear cG
 go_wp2_with fail
 refine (rcheckV _ true hv _).mono ?_
 rintro e w2 ⟨rfl, e2⟩
 have k2 := (k1.alloc _).trans e2
 have y1 := e2.lt1
 have y2 : w.heap.size < w2.heap.size := by omega
 have y3 : w.heap.size + 1 < w2.heap.size := by omega
 have y4 : w.heap.size + 2 < w2.heap.size := by omega
 obtain ⟨q1, q2⟩ := e2.cells
 clear e1 e2
 go_wp2_with fail
 refine (ho _ (HI.out.ext k2)).mono ?_
 rintro e w3 ⟨rfl, e3⟩
 have k3 := k2.trans e3
 have j1 : w1.heap.size < w3.heap.size := by have := e3.le; omega
 have j2 : w.heap.size < w3.heap.size := by omega
 have j3 : w.heap.size + 1 < w3.heap.size := by omega
 have j4 : w.heap.size + 2 < w3.heap.size := by omega
 obtain ⟨r1, r2⟩ := e3.cells
 obtain ⟨rows, hrow, hrl, hrt⟩ := (HI.out.ext k3).rows
 have hir : i < rows.length := by omega
 obtain ⟨r, hr⟩ : ∃ r, rows[i]? = some r := ⟨_, List.getElem?_eq_getElem hir⟩
 have HR := Lib.hid hr
 obtain ⟨gb, cap, e0, hgb, c1, c2⟩ := rrow_cells hrow i _ HR.out
 obtain ⟨L, l1, l2, l3⟩ := hrt i _ _ HR.out HT.out
 have hcl := l1.count
 have hl1 : decide ((65536 : Int) ≤ (L.length : Int)) = false := by rw [decide_eq_false_iff_not]; omega
 have hl2 : decide (65536 ≤ L.length) = false := by rw [decide_eq_false_iff_not]; omega
 have hl3 : L.length ≤ 65535 := by omega
 clear hl
 obtain ⟨qk, ck, ek⟩ := l2.slice
 obtain ⟨qv, cv, ev⟩ := l3.slice
 have c0 : w3.cell? ⟨g, 0, none⟩ = some tv := (HI.out.ext k3).head.cell 0
 rw [List.length_map] at ek ev
 rw [ek] at c1 l2
 rw [ev] at c2 l3
 rw [e0] at c0
 have L1 := Lib.hid l1
 have L2 := Lib.hid l2
 have L3 := Lib.hid l3
 have hgl : g < w3.heap.size := (HI.out.ext k3).head.lt
 have E0 := Lib.hid e0
 have EK := Lib.hid ek
 have EV := Lib.hid ev
 have HRows := Lib.hid (And.intro hrow (And.intro hrl hrt))
 clear ho e3 hrow hrl hrt hir hr e0 l1 l2 l3 ek ev
 go_wp2_with fail
 have H4 := Lib.hid (HI.out.ext (k3.alloc (.cells #[.slice qk L.length ck, .slice qv L.length cv] 91)))
 have x1 : ¬ w.heap.size = g := by have := HI.out.head.lt; omega
 have x2 : ¬ w.heap.size + 1 = g := by have := HI.out.head.lt; omega
 have x3 : ¬ w.heap.size + 1 + 1 = g := by have := HI.out.head.lt; omega
 have x4 : ¬ w3.heap.size = g := by omega
 refine (rtake_any g tv H.cells H.spent 1 _ H4.out.head b1 b2 b3 (by omega) (by omega)).mono ?_
 rintro e w5 ⟨rfl, ho5, hb5⟩
 have j5 := ho5.lt1
 have j6 : w.heap.size < w5.heap.size := by omega
 have j7 : w.heap.size + 1 < w5.heap.size := by omega
 have j8 : w.heap.size + 2 < w5.heap.size := by omega
 obtain ⟨s1, s2⟩ := ho5.cells
 rw [htc] at hb5
 have H5 := Lib.hid (H4.out.only ho5 _ _ hb5 b1 b2 b3)
 have HT5 := Lib.hid ((Touch.of_ext (k3.alloc (.cells #[.slice qk L.length ck, .slice qv L.length cv] 91))).trans (Touch.only (F := RFoot g tv) ho5 (.inl rfl)))
 clear ho5 hb5 htc
 go_wp2_with fail
 go_ret
 exact ⟨rfl, H5.out, HT5.out⟩
theorem RowAt.only {w w' : World} {g : Nat} {tv v : Value} {c s : Int} {l : List Vl} (h : RowAt w v l) (hb : RB w g tv c s) (ho : Only g w w') : RowAt w' v l := h.of_heap fun k hk => by
 obtain ⟨hlt, cs, hc⟩ := h.lt k hk
 refine ho.block k hlt (fun e => ?_)
 obtain rfl := Option.some.inj e
 unfold RB Blk at hb
 rw [hc] at hb
 injection Option.some.inj hb with _ e
 exact absurd e (by decide)
theorem RHeapIn.slot {w : World} {g gb cap i : Nat} {tv : Value} {R : Hp} (h : RHeapIn w g tv R) (hi : i < R.tabs.length) (htv : tv = .slice (some ⟨gb, 0, none⟩) R.tabs.length cap) :
  ∃ a b, w.cell? ⟨gb, i * 2, none⟩ = some a ∧ w.cell? ⟨gb, i * 2 + 1, none⟩ = some b ∧ gb < w.heap.size ∧ ∀ o, w.frozen? ⟨gb, o, none⟩ = false := by
 obtain ⟨rows, hrow, hrl, _⟩ := h.rows
 obtain ⟨gb', cap', e1, h1, h2, h3⟩ := rrow_cells hrow i _ (List.getElem?_eq_getElem (by omega : i < rows.length))
 rw [htv] at e1
 injection e1 with e1 _ e3
 injection e1 with e1
 injection e1 with e1
 subst e1
 rcases h.sort (.inr (by rw [htv]; rfl) : RFoot g tv gb) with ⟨cs, hc⟩ | ⟨cs, hc⟩
 ·exact ⟨_, _, h2, h3, h1, fun o => Blk.frozen hc o⟩
 ·exact ⟨_, _, h2, h3, h1, fun o => Blk.frozen hc o⟩
end Go.Proofs.YtlfihdcgbhdajaaGreatDoor
