/- How long a table is; tables are made; texts are made. A table is made. -/
import Derived.Test.YtlfihdcgbhdajaaGreatDoorYHpF
import Derived.LoopTactic
import Derived.Test.YtlfihdcgbhdajaaGreatDoorYA1
import Derived.Maps.AppendAt
namespace Go.Proofs.YtlfihdcgbhdajaaGreatDoor
open Go.RowKit
set_option linter.unusedVariables false
set_option linter.unusedSimpArgs false

theorem fld0 (k n : Int) (s : ByteArray) (W : World) : (Instr.field 34 (⟨k, n, s⟩ : Vl).v 0).run Tryz.prog W = .ok (.int .i64 k) W := by kernel_rfl
set_option maxRecDepth 100000 in
theorem len_text (g : Nat) (tv : Value) (rs : List (Nat × Nat)) (H : Hp) (v : Vl) (w : World) (h : HeapIn w g tv rs H) (hlen : H.tabs.length ≤ 9223372036854775807) (hv : v.ck = true) (h3 : v.k = 3) (hz : v.s.size ≤ 9223372036854775807) :
  Calls Tryz.prog 16 #[.pointer (some ⟨g, 0, none⟩), v.v] w fun e w' => e = .returned (.tuple #[.int .i64 v.s.size, .string sNone]) ∧ Ext w w' := by
 have HI := Lib.hid h
 clear h
 obtain ⟨vk, vn, vs⟩ := v
 simp only at h3 hz
 subst h3
 go_enter Tryz.func16, Tryz.ntmps16
 go_wp2_with fail
 refine (checkV _ true hv _).mono ?_
 rintro e w1 ⟨rfl, e1⟩
 have k1 := ((Ext.refl w).alloc _).trans e1
 have z1 := e1.lt1
 obtain ⟨p1, p2⟩ := e1.cells
 clear e1
 go_wp2_with fail
 go_ret2
 exact ⟨rfl, by repeat (first | exact k1 | refine Ext.alloc ?_ _ | refine Ext.setCell ?_ (by simp <;> omega) _)⟩
set_option maxRecDepth 100000 in
theorem len_why_false (g : Nat) (tv : Value) (rs : List (Nat × Nat)) (H : Hp) (v : Vl) (w : World) (h : HeapIn w g tv rs H) (hlen : H.tabs.length ≤ 9223372036854775807) (hv : v.ck = false) (hn : ¬ (ofW H v).toList = []) :
  Calls Tryz.prog 16 #[.pointer (some ⟨g, 0, none⟩), v.v] w fun e w' => e = .returned (.tuple #[.int .i64 0, .string (ofW H v)]) ∧ Ext w w' := by
 obtain ⟨x, y, hxy, ho⟩ := of_any g tv rs H v h.len hlen
 clear hxy
 have hn' : (ofW H v).toList.isEmpty = false := by simpa using hn
 generalize ofW H v = o at *
 have HI := Lib.hid h
 clear h
 obtain ⟨vk, vn, vs⟩ := v
 go_enter Tryz.func16, Tryz.ntmps16
 go_wp2_with fail
 refine (checkV _ false hv _).mono ?_
 rintro e w1 ⟨rfl, e1⟩
 have k1 := ((Ext.refl w).alloc _).trans e1
 have z1 := e1.lt1
 obtain ⟨p1, p2⟩ := e1.cells
 clear e1
 go_wp2_with fail
 refine (ho _ (HI.out.ext k1)).mono ?_
 rintro e w2 ⟨rfl, e2⟩
 have k2 := k1.trans e2
 clear ho
 go_wp2_with fail
 go_ret2
 exact ⟨rfl, by repeat (first | exact k2 | refine Ext.alloc ?_ _ | refine Ext.setCell ?_ (by simp <;> omega) _)⟩
set_option maxRecDepth 100000 in
theorem len_why_true (g : Nat) (tv : Value) (rs : List (Nat × Nat)) (H : Hp) (v : Vl) (w : World) (h : HeapIn w g tv rs H) (hlen : H.tabs.length ≤ 9223372036854775807) (hv : v.ck = true) (h3 : ¬ v.k = 3) (hn : ¬ (ofW H v).toList = []) :
  Calls Tryz.prog 16 #[.pointer (some ⟨g, 0, none⟩), v.v] w fun e w' => e = .returned (.tuple #[.int .i64 0, .string (ofW H v)]) ∧ Ext w w' := by
 obtain ⟨x, y, hxy, ho⟩ := of_any g tv rs H v h.len hlen
 clear hxy
 have h3' : (v.k == 3) = false := by simpa using h3
 clear h3
 have hn' : (ofW H v).toList.isEmpty = false := by simpa using hn
 generalize ofW H v = o at *
 have HI := Lib.hid h
 clear h
 obtain ⟨vk, vn, vs⟩ := v
 go_enter Tryz.func16, Tryz.ntmps16
 go_wp2_with fail
 refine (checkV _ true hv _).mono ?_
 rintro e w1 ⟨rfl, e1⟩
 have k1 := ((Ext.refl w).alloc _).trans e1
 have z1 := e1.lt1
 obtain ⟨p1, p2⟩ := e1.cells
 clear e1
 go_wp2_with fail
 refine (ho _ (HI.out.ext k1)).mono ?_
 rintro e w2 ⟨rfl, e2⟩
 have k2 := k1.trans e2
 clear ho
 go_wp2_with fail
 go_ret2
 exact ⟨rfl, by repeat (first | exact k2 | refine Ext.alloc ?_ _ | refine Ext.setCell ?_ (by simp <;> omega) _)⟩
set_option maxRecDepth 100000 in
theorem len_tab (g : Nat) (tv : Value) (rs : List (Nat × Nat)) (H : Hp) (v : Vl) (w : World) (h : HeapIn w g tv rs H) (hlen : H.tabs.length ≤ 9223372036854775807) (hn : ofW H v = sNone) :
  Calls Tryz.prog 16 #[.pointer (some ⟨g, 0, none⟩), v.v] w fun e w' => e = .returned (.tuple #[.int .i64 (tlen (tabOf H v) : Int), .string sNone]) ∧ Ext w w' := by
 obtain ⟨x, y, hxy, ho⟩ := of_any g tv rs H v h.len hlen
 obtain ⟨r, hr, rfl, rfl⟩ := hxy hn
 obtain ⟨o1, o2, o3, o4, o5⟩ := ofW_none hn
 have HT := Lib.hid (tabOf_get o5)
 have HR := Lib.hid hr
 have hTb := tabOf_ok h.ok o5
 have hmost := hTb.most
 have hle := tlen_le hTb
 have HTb := Lib.hid hTb
 have hs0 := sNone_list
 have hs1 : sNone.toList.isEmpty = true := by rw [hs0]; rfl
 rw [hn] at ho
 have hv := o1
 clear hxy hr hn o1 o3 o4 o5 hTb
 obtain ⟨T, hT⟩ : ∃ T, T = tabOf H v := ⟨_, rfl⟩
 rw [← hT] at HT HTb hmost hle ⊢
 clear hT
 have HI := Lib.hid h
 clear h
 obtain ⟨vk, vn, vs⟩ := v
 simp only at o2
 subst o2
 go_enter Tryz.func16, Tryz.ntmps16
 go_wp2_with fail
 refine (checkV _ true hv _).mono ?_
 rintro e w1 ⟨rfl, e1⟩
 have k1 := ((Ext.refl w).alloc _).trans e1
 have z1 := e1.lt1
 obtain ⟨p1, p2⟩ := e1.cells
 clear e1
 go_wp2_with fail
 refine (ho _ (HI.out.ext k1)).mono ?_
 rintro e w2 ⟨rfl, e2⟩
 have k2 := (k1.trans e2).alloc (.cells #[.map (some r.1), .map (some r.2)] 75)
 obtain ⟨mi, mt, him, hmt, hrep⟩ := (HI.out.ext k2).tabs _ _ _ HR.out HT.out
 have HL : Hid (∀ n : Int, (Instr.lookup 72 (.map (some r.1)) (.int .i64 n) false).run Tryz.prog (w2.alloc (.cells #[.map (some r.1), .map (some r.2)] 75)) = .ok (tget T (iK n)).v (w2.alloc (.cells #[.map (some r.1), .map (some r.2)] 75))) := Lib.hid (fun n => by
  have := look_i him n
  rw [← hrep.ints] at this
  exact this)
 clear ho e2 him hmt hrep p1 p2
 go_wp2_with fail
 go_loop [8] (fun n => ∃ i : Nat, i ≤ tlen T ∧ n = .int .i64 i) (fun n => tlen T - (intOf n).toNat)
 case atStart => exact ⟨0, Nat.zero_le _, rfl⟩
 case round =>
  obtain ⟨i, hi, rfl⟩ := hrel
  have hl := HL.out (i + 1)
  rcases (by omega : i < tlen T ∨ i = tlen T) with hlt | heq
  ·have hne : ((tget T (iK (i + 1))).k != 0) = true := by simpa using tlen_in HTb.out i hlt
   generalize tget T (iK (i + 1)) = u at *
   obtain ⟨uk, un, us⟩ := u
   have hfld := fun W => fld0 uk un us W
   go_wp2
   go_round
   case rel => exact ⟨i + 1, by omega, by go_num⟩
   case measure => simp [intOf]; omega
  ·have hne : ((tget T (iK (i + 1))).k != 0) = false := by rw [heq]; simpa using tlen_end HTb.out
   have HQ := Lib.hid heq
   clear heq
   generalize tget T (iK (i + 1)) = u at *
   obtain ⟨uk, un, us⟩ := u
   have hfld := fun W => fld0 uk un us W
   go_wp2
   go_ret2
   exact ⟨ret2_of ⟨int_eq (k := .i64) (a := (i : Int)) (b := (tlen T : Int)) (by rw [HQ.out]), rfl⟩, k2⟩
theorem len_any (g : Nat) (tv : Value) (rs : List (Nat × Nat)) (H : Hp) (v : Vl) (w : World) (h : HeapIn w g tv rs H) (hlen : H.tabs.length ≤ 9223372036854775807) :
  Calls Tryz.prog 16 #[.pointer (some ⟨g, 0, none⟩), v.v] w fun e w' => e = .returned (.tuple #[.int .i64 (lenV H v), .string (lenW H v)]) ∧ Ext w w' := by
 cases hv : v.ck with
 | false =>
  have e1 : lenW H v = ofW H v := by unfold lenW; rw [hv]; rfl
  have e3 : ofW H v = sType := by unfold ofW; rw [hv]; rfl
  have e2 : lenV H v = 0 := by unfold lenV; rw [hv, if_neg (by simp), e3, if_neg sNone_ne.2.1]
  rw [e1, e2]
  exact len_why_false g tv rs H v w h hlen hv (fun hl => by rw [e3] at hl; exact sNone_ne.2.1 (toList_nil hl))
 | true =>
  by_cases h3 : v.k = 3
  ·have e1 : lenW H v = sNone := by unfold lenW; rw [if_pos (by simp [hv, h3])]
   have e2 : lenV H v = v.s.size := by unfold lenV; rw [if_pos (by simp [hv, h3])]
   rw [e1, e2]
   refine len_text g tv rs H v w h hlen hv h3 ?_
   have := hv
   unfold Vl.ck checkB at this
   simp [h3] at this
   omega
  ·have e1 : lenW H v = ofW H v := by unfold lenW; rw [if_neg (by simp [h3])]
   have e2 : lenV H v = if ofW H v = sNone then (tlen (tabOf H v) : Int) else 0 := by unfold lenV; rw [if_neg (by simp [h3])]
   rw [e1, e2]
   by_cases hn : ofW H v = sNone
   ·rw [if_pos hn, hn]
    exact len_tab g tv rs H v w h hlen hn
   ·rw [if_neg hn]
    exact len_why_true g tv rs H v w h hlen hv h3 (fun hl => hn (toList_nil hl))
end Go.Proofs.YtlfihdcgbhdajaaGreatDoor
namespace Go.Proofs.YtlfihdcgbhdajaaGreatDoor
open Go.RowKit
set_option linter.unusedVariables false
set_option linter.unusedSimpArgs false

theorem infoTab : (Tryz.prog.info? 75).map (fun i => (i.zero, i.size, i.bytes)) = some (some (.agg #[.map none, .map none]), 2, 16) := by kernel_rfl
theorem rowOf_snoc (rs : List (Nat × Nat)) (r : Nat × Nat) : rowOf (rs ++ [r]) = rowOf rs ++ [.map (some r.1), .map (some r.2)] := by simp [rowOf]
theorem mapsOf_snoc (rs : List (Nat × Nat)) (r : Nat × Nat) : mapsOf (rs ++ [r]) = mapsOf rs ++ [r.1, r.2] := by simp [mapsOf]
theorem Touch.setg {F : Nat → Prop} {a w : World} {g i : Nat} (h : Touch F a w) (hg : F g) (u : Value) : Touch F a (w.setCell ⟨g, i, none⟩ u) :=
 ⟨h.os, h.tape, h.output, by simpa [World.setCell] using h.size, fun k hk hn => (Below.heap_setCell w _ u k (by rintro rfl; exact hn hg)).trans (h.block k hk hn)⟩
theorem Touch.grown {F : Nat → Prop} {a b c : World} {row : Option Nat} (h : Touch F a b) (hg : b.grownBy c row) (hr : ∀ x, row = some x → F x) : Touch F a c :=
 ⟨hg.os.trans h.os, hg.tape.trans h.tape, hg.output.trans h.output, Nat.le_trans h.size hg.size, fun k hk hn => (hg.block k (Nat.lt_of_lt_of_le hk h.size) (fun e => hn (hr k e.symm))).trans (h.block k hk hn)⟩
abbrev tabW3 (w : World) : World := ((w.alloc (.map #[] 0)).alloc (.map #[] 0)).alloc (.cells #[.map (some w.heap.size), .map (some (w.heap.size + 1))] 75)
theorem app_tab (w : World) (ty : TypeId) (tv : Value) (n : Nat) (rs : List (Nat × Nat)) (h : w.ownsRow 0 75 2 tv n (rowOf rs)) (hn : n ≤ 1000000000000) :
  ∃ v' w', (Builtin.append_ #[56, 56] ty #[tv, .slice (some ⟨w.heap.size + 1 + 1, 0, none⟩) 1 1]).run Tryz.prog (tabW3 w) = .ok v' w' ∧
   w'.ownsRow 0 75 2 v' (n + 1) (rowOf (rs ++ [(w.heap.size, w.heap.size + 1)])) ∧ (tabW3 w).grownBy w' tv.ownBlock ∧ (v'.ownBlock = tv.ownBlock ∨ v'.ownBlock = some (w.heap.size + 3)) := by
 obtain ⟨i0, hi, hz0, hz1, hz2⟩ := info_parts infoTab
 have h' : (tabW3 w).ownsRow 0 75 2 tv n (rowOf rs) := own_ext h ((((Ext.refl w).alloc _).alloc _).alloc _)
 have hsz : (tabW3 w).heap.size = w.heap.size + 3 := by simp [tabW3, size_alloc]
 obtain ⟨v', w', h1, h2, h3, _, h4⟩ := run_append_own_at (P := Tryz.prog) (w := tabW3 w) 0 56 ty 75 i0 (.agg #[.map none, .map none]) 2 16 Tryz.underlying56 hi hz0 hz1 hz2 rfl (by omega) tv n (rowOf rs) h' ⟨w.heap.size + 1 + 1, 0, none⟩ 1 1
  [.map (some w.heap.size), .map (some (w.heap.size + 1))] rfl (fun j u hu => by
   have hB : Blk (tabW3 w) (w.heap.size + 1 + 1) 75 #[.map (some w.heap.size), .map (some (w.heap.size + 1))] := by
    have := Blk.new ((w.alloc (.map #[] 0)).alloc (.map #[] 0)) 75 #[.map (some w.heap.size), .map (some (w.heap.size + 1))]
    rwa [size_alloc, size_alloc] at this
   have hadd : (⟨w.heap.size + 1 + 1, 0, none⟩ : Addr).add j = ⟨w.heap.size + 1 + 1, 0 + j, none⟩ := by unfold Addr.add; split <;> simp_all
   rw [hadd, hB.cell, Nat.zero_add]
   simpa using hu) (by intro u hu; simp at hu; rcases hu with rfl | rfl <;> rfl) (by unfold maxLen; omega) (by omega) (Nat.zero_le _)
 refine ⟨v', w', h1, by rw [rowOf_snoc]; exact h2, h3, ?_⟩
 rw [hsz] at h4
 exact h4
section
variable {w w' : World} {g : Nat} {tv tv' : Value} {rs : List (Nat × Nat)} {H : Hp}
theorem HeapIn.table (h : HeapIn w g tv rs H) (hrow : w'.ownsRow 0 75 2 tv' (H.tabs.length + 1) (rowOf (rs ++ [(w.heap.size, w.heap.size + 1)]))) (hg : (tabW3 w).grownBy w' tv.ownBlock)
  (hv : tv'.ownBlock = tv.ownBlock ∨ tv'.ownBlock = some (w.heap.size + 3)) :
  HeapIn (w'.setCell ⟨g, 0, none⟩ tv') g tv' (rs ++ [(w.heap.size, w.heap.size + 1)]) ⟨H.tabs ++ [[]], H.cells, H.spent⟩ ∧ Touch (Foot g tv rs) w (w'.setCell ⟨g, 0, none⟩ tv') ∧
   (∀ x, Foot g tv' (rs ++ [(w.heap.size, w.heap.size + 1)]) x → Foot g tv rs x ∨ w.heap.size ≤ x) := by
 have hgl := h.head.lt
 have hE : Ext w (tabW3 w) := (((Ext.refl w).alloc _).alloc _).alloc _
 have hsz : (tabW3 w).heap.size = w.heap.size + 3 := by simp [tabW3, size_alloc]
 have hT : Touch (Foot g tv rs) w w' := (Touch.of_ext hE).grown hg fun x hx => .inr (.inl hx)
 have keep : ∀ k, k < (tabW3 w).heap.size → tv.ownBlock ≠ some k → k ≠ g → (w'.setCell ⟨g, 0, none⟩ tv').heap[k]? = (tabW3 w).heap[k]? := fun k hk hn hkg =>
  (Below.heap_setCell w' _ tv' k (by exact hkg)).trans (hg.block k hk (fun e => hn e.symm))
 have hn1 : tv.ownBlock ≠ some w.heap.size := fun e => by have := h.low (.inr (.inl e)); omega
 have hn2 : tv.ownBlock ≠ some (w.heap.size + 1) := fun e => by have := h.low (.inr (.inl e)); omega
 have hM1 : (tabW3 w).heap[w.heap.size]? = some (.map #[] 0) := by
  refine (heap_alloc_old _ _ ?_).trans ((heap_alloc_old _ _ ?_).trans (heap_alloc_new w _)) <;> simp [size_alloc] <;> omega
 have hM2 : (tabW3 w).heap[w.heap.size + 1]? = some (.map #[] 0) := by
  have h1 : ((w.alloc (.map #[] 0)).alloc (.map #[] 0)).heap[w.heap.size + 1]? = some (.map #[] 0) := by
   have := heap_alloc_new (w.alloc (.map #[] 0)) (.map #[] 0)
   rwa [size_alloc] at this
  exact (heap_alloc_old _ _ (by simp [size_alloc])).trans h1
 refine ⟨⟨?_, ?_, ?_, ?_, ?_, ?_⟩, hT.setg (.inl rfl) _, ?_⟩
 ·have hb : HB w' g tv H.cells H.spent := (hg.block g (by rw [hsz]; omega) (fun e => h.hrow e.symm)).trans ((hE.block g hgl).trans h.head)
  exact hb.set_ 0 tv'
 ·show (w'.setCell ⟨g, 0, none⟩ tv').ownsRow _ _ _ _ (H.tabs ++ [[]]).length _
  rw [List.length_append]
  have hb : HB w' g tv H.cells H.spent := (hg.block g (by rw [hsz]; omega) (fun e => h.hrow e.symm)).trans ((hE.block g hgl).trans h.head)
  obtain ⟨hl, hrow⟩ := hrow
  refine ⟨hl, ?_⟩
  rcases hrow with h1 | ⟨gb, cap, cur, e1, hb', hc, h2⟩
  ·exact .inl h1
  ·refine .inr ⟨gb, cap, cur, e1, hb', (Below.heap_setCell w' _ tv' gb ?_).trans hc, h2⟩
   rintro rfl
   unfold HB Blk at hb
   rw [hc] at hb
   have := Option.some.inj hb
   injection this with _ h3
   exact absurd h3 (by decide)
 ·simp [h.len]
 ·intro i r T hr hT
  rcases Nat.lt_or_ge i rs.length with hi | hi
  ·have hr' : rs[i]? = some r := by rwa [List.getElem?_append_left hi] at hr
   have hT' : H.tabs[i]? = some T := by
    have hi' : i < H.tabs.length := by rw [← h.len]; exact hi
    have : (H.tabs ++ [[]])[i]? = some T := hT
    rwa [List.getElem?_append_left hi'] at this
   obtain ⟨mi, mt, h1, h2, h3⟩ := h.tabs i r T hr' hT'
   have hm := List.mem_of_getElem? hr'
   have m1 : r.1 ∈ mapsOf rs := List.mem_flatMap.2 ⟨r, hm, by simp⟩
   have m2 : r.2 ∈ mapsOf rs := List.mem_flatMap.2 ⟨r, hm, by simp⟩
   have far : ∀ x ∈ mapsOf rs, (w'.setCell ⟨g, 0, none⟩ tv').heap[x]? = w.heap[x]? := fun x hx => by
    have hx' := h.low (.inr (.inr hx))
    refine (keep x (by rw [hsz]; omega) (fun e => ?_) (by rintro rfl; exact h.hmap hx)).trans (hE.block x hx')
    obtain ⟨es, c, hmm⟩ := h.mem hx
    rcases h.row.2 with ⟨e1, _⟩ | ⟨gb, cap, cur, e1, hb, hc, _⟩
    ·rw [e1] at e; simp [Value.ownBlock] at e
    ·rw [e1] at e
     obtain rfl : gb = x := Option.some.inj e
     rw [hc] at hmm
     cases Option.some.inj hmm
   exact ⟨mi, mt, h1.of (far _ m1), h2.of (far _ m2), h3⟩
  ·have e1 : (rs ++ [(w.heap.size, w.heap.size + 1)])[i]? = some r := hr
   have e2 : (H.tabs ++ [[]])[i]? = some T := hT
   rw [List.getElem?_append_right hi] at e1
   rw [List.getElem?_append_right (by rw [← h.len]; exact hi)] at e2
   have hi0 : i - rs.length = 0 := by
    rcases Nat.eq_zero_or_pos (i - rs.length) with h0 | h0
    ·exact h0
    ·rw [List.getElem?_eq_none (by simp; omega)] at e1; cases e1
   rw [hi0] at e1
   rw [← h.len, hi0] at e2
   simp at e1 e2
   subst e1
   subst e2
   refine ⟨[], [], ?_, ?_, TRep.nil⟩
   ·exact ⟨#[], 0, (keep _ (by rw [hsz]; omega) hn1 (by omega)).trans hM1, rfl, MapKept.stamped_empty 0⟩
   ·exact ⟨#[], 0, (keep _ (by rw [hsz]; omega) hn2 (by omega)).trans hM2, rfl, MapKept.stamped_empty 0⟩
 ·rw [mapsOf_snoc, List.nodup_append]
  refine ⟨h.apart, by simp, fun a ha b hb e => ?_⟩
  have := h.low (.inr (.inr ha))
  simp at hb
  omega
 ·refine ⟨fun T hT => ?_, h.ok.low, h.ok.le, h.ok.most⟩
  rcases List.mem_append.1 hT with hT | hT
  ·exact h.ok.tab T hT
  ·rw [List.mem_singleton] at hT; subst hT; exact tbOk_nil
 ·rintro x (rfl | hx | hx)
  ·exact .inl (.inl rfl)
  ·rcases hv with hv | hv
   ·exact .inl (.inr (.inl (by rw [← hv]; exact hx)))
   ·rw [hv] at hx
    have := Option.some.inj hx
    exact .inr (by omega)
  ·rw [mapsOf_snoc] at hx
   rcases List.mem_append.1 hx with hx | hx
   ·exact .inl (.inr (.inr hx))
   ·simp at hx; exact .inr (by omega)
end
set_option maxRecDepth 100000 in
theorem table_no (g : Nat) (tv : Value) (rs : List (Nat × Nat)) (H : Hp) (w : World) (h : HeapIn w g tv rs H) (hm : ¬ 1 ≤ H.cells - H.spent) :
  Calls Tryz.prog 19 #[.pointer (some ⟨g, 0, none⟩)] w fun e w' => e = .returned (.tuple #[Vl.zero.v, .string sMemory]) ∧ HeapIn w' g tv rs H ∧ Touch (Foot g tv rs) w w' := by
 have htk : tkB H.cells H.spent 1 = false := (tkB_no hm).symm
 have htc : tk H.cells H.spent 1 = H.spent := tk_no hm
 have b1 := h.ok.low
 have b2 := h.ok.le
 have b3 := h.ok.most
 have hg := h.head.lt
 have x1 : ¬ w.heap.size = g := by omega
 have HI := Lib.hid h
 have H4 := Lib.hid (h.ext ((Ext.refl w).alloc (.cells #[.int .i64 0, .int .i64 0, .string ⟨#[]⟩] 34)))
 clear hm h
 go_enter Tryz.func19, Tryz.ntmps19
 go_wp2_with fail
 refine (take_any g tv H.cells H.spent 1 _ H4.out.head b1 b2 b3 (by omega) (by omega)).mono ?_
 rintro e w5 ⟨rfl, ho5, hb5⟩
 rw [htc] at hb5
 have H5 := Lib.hid (H4.out.only ho5 _ _ hb5 b1 b2 b3)
 have HT5 := Lib.hid ((Touch.of_ext ((Ext.refl w).alloc (.cells #[.int .i64 0, .int .i64 0, .string ⟨#[]⟩] 34))).trans (Touch.only (F := Foot g tv rs) ho5 (.inl rfl)))
 have j5 := ho5.lt1
 obtain ⟨s1, s2⟩ := ho5.cells
 clear ho5 hb5 htc
 go_wp2_with fail
 refine bodyPost_ret (v := .tuple #[Vl.zero.v, .string sMemory]) (by simp [results, Tryz.results19, go_sem, sMemory, Vl.zero, *]) rfl ⟨rfl, ?_, ?_⟩
 ·refine H5.out.touch (F := fun k => w.heap.size = k) (by repeat (first | exact Touch.refl _ _ | refine Touch.setg ?_ rfl _)) (fun x hx => by have := HI.out.low hx; omega)
 ·refine HT5.out.transn (G := fun k => w.heap.size = k) (by repeat (first | exact Touch.refl _ _ | refine Touch.setg ?_ rfl _)) (fun x hx => .inr (by omega))
set_option maxRecDepth 100000 in
theorem table_yes (g : Nat) (tv : Value) (rs : List (Nat × Nat)) (H : Hp) (w : World) (h : HeapIn w g tv rs H) (hm : 1 ≤ H.cells - H.spent) (hn : H.tabs.length ≤ 1000000000000) :
  Calls Tryz.prog 19 #[.pointer (some ⟨g, 0, none⟩)] w fun e w' => e = .returned (.tuple #[.agg #[.int .i64 4, .int .i64 (H.tabs.length : Int), .string sNone], .string sNone]) ∧
   ∃ tv' rs', HeapIn w' g tv' rs' ⟨H.tabs ++ [[]], H.cells, H.spent + 1⟩ ∧ Touch (Foot g tv rs) w w' ∧ (∀ x, Foot g tv' rs' x → Foot g tv rs x ∨ w.heap.size ≤ x) := by
 have htk : tkB H.cells H.spent 1 = true := (tkB_yes hm).symm
 have htc : tk H.cells H.spent 1 = H.spent + 1 := tk_yes hm
 have b1 := h.ok.low
 have b2 := h.ok.le
 have b3 := h.ok.most
 have hg := h.head.lt
 have x1 : ¬ w.heap.size = g := by omega
 have hm' : H.spent + 1 ≤ H.cells := by omega
 have hmm := @run_makeMap Tryz.prog
 have HI := Lib.hid h
 have H4 := Lib.hid (h.ext ((Ext.refl w).alloc (.cells #[.int .i64 0, .int .i64 0, .string ⟨#[]⟩] 34)))
 clear hm h
 go_enter Tryz.func19, Tryz.ntmps19
 go_wp2_with fail
 refine (take_any g tv H.cells H.spent 1 _ H4.out.head b1 b2 b3 (by omega) (by omega)).mono ?_
 rintro e w5 ⟨rfl, ho5, hb5⟩
 rw [htc] at hb5
 have h5 := H4.out.only ho5 _ _ hb5 (by omega) hm' b3
 have HT5 := Lib.hid ((Touch.of_ext ((Ext.refl w).alloc (.cells #[.int .i64 0, .int .i64 0, .string ⟨#[]⟩] 34))).trans (Touch.only (F := Foot g tv rs) ho5 (.inl rfl)))
 have j5 := ho5.lt1
 obtain ⟨s1, s2⟩ := ho5.cells
 obtain ⟨v2, w2, happ, hrow, hgr, hov⟩ := app_tab w5 56 tv H.tabs.length rs h5.row hn
 have HN := Lib.hid (h5.table hrow hgr hov)
 have hg5 : g < w5.heap.size := h5.head.lt
 have t0 : w5.cell? ⟨g, 0, none⟩ = some tv := h5.head.cell 0
 have hsz : (tabW3 w5).heap.size = w5.heap.size + 3 := by simp [tabW3, size_alloc]
 have hE : Ext w5 (tabW3 w5) := (((Ext.refl w5).alloc _).alloc _).alloc _
 have gB : w2.heap[g]? = w5.heap[g]? := (hgr.block g (by rw [hsz]; omega) (fun e => h5.hrow e.symm)).trans (hE.block g hg5)
 have xB : w2.heap[w.heap.size]? = w5.heap[w.heap.size]? := (hgr.block _ (by rw [hsz]; omega) (fun e => by have := HI.out.low (.inr (.inl e.symm)); omega)).trans (hE.block _ j5)
 have c0 : w2.cell? ⟨g, 0, none⟩ = some tv := (World.cell?_of_block gB).trans t0
 have g0 : w2.frozen? ⟨g, 0, none⟩ = false := (World.frozen?_of_block gB).trans (h5.head.frozen 0)
 have c1 : ∀ o, w2.cell? ⟨w.heap.size, o, none⟩ = w5.cell? ⟨w.heap.size, o, none⟩ := fun o => World.cell?_of_block xB
 have c2 : ∀ o, w2.frozen? ⟨w.heap.size, o, none⟩ = w5.frozen? ⟨w.heap.size, o, none⟩ := fun o => World.frozen?_of_block xB
 have jg : w.heap.size < w2.heap.size := by have := hgr.size; rw [hsz] at this; omega
 obtain ⟨q, cap, hv2⟩ := row_form hrow
 subst hv2
 clear ho5 hb5 htc h5 hrow hgr hov gB xB hE hsz
 go_wp2_with (at_builtin; refine wpList_append_run rfl _ _ 56 rfl _ _ _ w2 rfl rfl happ ?_)
 have far : ∀ x, Foot g (.slice q (H.tabs.length + 1) cap) (rs ++ [(w5.heap.size, w5.heap.size + 1)]) x → Foot g tv rs x ∨ w.heap.size < x := fun x hx => by
  rcases HN.out.2.2 x hx with h | h
  ·exact .inl h
  ·exact .inr (by omega)
 refine bodyPost_ret (v := .tuple #[.agg #[.int .i64 4, .int .i64 (H.tabs.length : Int), .string sNone], .string sNone]) (by simp [results, Tryz.results19, go_sem, sNone, *]) rfl ?_
 refine ⟨rfl, .slice q (H.tabs.length + 1) cap, rs ++ [(w5.heap.size, w5.heap.size + 1)], ?_, ?_, ?_⟩
 ·refine HN.out.1.touch (F := fun k => w.heap.size = k) (by repeat (first | exact Touch.refl _ _ | refine Touch.setg ?_ rfl _)) (fun x hx => by
   rcases far x hx with h | h
   ·have := HI.out.low h; omega
   ·omega)
 ·refine (HT5.out.trans HN.out.2.1).transn (G := fun k => w.heap.size = k) (by repeat (first | exact Touch.refl _ _ | refine Touch.setg ?_ rfl _)) (fun x hx => .inr (by omega))
 ·exact fun x hx => by
   rcases far x hx with h | h
   ·exact .inl h
   ·exact .inr (by omega)
end Go.Proofs.YtlfihdcgbhdajaaGreatDoor
