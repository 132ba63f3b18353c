/- A table is made, by the document's heap. A value is put under a key, by the document's heap: all ways. -/
import Derived.Test.YtlfihdcgbhdajaaGreatDoorYD2
import Derived.Test.YtlfihdcgbhdajaaGreatDoorYRhR
import Derived.Test.YtlfihdcgbhdajaaGreatDoorYRhQ
import Derived.Test.YtlfihdcgbhdajaaGreatDoorYRhN
namespace Go.Proofs.YtlfihdcgbhdajaaGreatDoor
open Go.RowKit
set_option linter.unusedVariables false
set_option linter.unusedSimpArgs false

theorem infoRTab : (Tryz.prog.info? 91).map (fun i => (i.zero, i.size, i.bytes)) = some (some (.agg #[.slice none 0 0, .slice none 0 0]), 2, 48) := by kernel_rfl
theorem rrowOf_snoc (rows : List (Value × Value)) (r : Value × Value) : rrowOf (rows ++ [r]) = rrowOf rows ++ [r.1, r.2] := by simp [rrowOf]
abbrev rtabW (w : World) : World := w.alloc (.cells #[.slice none 0 0, .slice none 0 0] 91)
theorem app_rtab (w : World) (ty : TypeId) (tv : Value) (n : Nat) (rows : List (Value × Value)) (h : w.ownsRow 0 91 2 tv n (rrowOf rows)) (hn : n ≤ 1000000000000) :
  ∃ v' w', (Builtin.append_ #[39, 39] ty #[tv, .slice (some ⟨w.heap.size, 0, none⟩) 1 1]).run Tryz.prog (rtabW w) = .ok v' w' ∧
   w'.ownsRow 0 91 2 v' (n + 1) (rrowOf (rows ++ [(.slice none 0 0, .slice none 0 0)])) ∧ (rtabW w).grownBy w' tv.ownBlock ∧ (v'.ownBlock = tv.ownBlock ∨ v'.ownBlock = some (w.heap.size + 1)) := by
 obtain ⟨i0, hi, hz0, hz1, hz2⟩ := info_parts infoRTab
 have h' : (rtabW w).ownsRow 0 91 2 tv n (rrowOf rows) := own_ext h ((Ext.refl w).alloc _)
 have hsz : (rtabW w).heap.size = w.heap.size + 1 := size_alloc _ _
 obtain ⟨v', w', h1, h2, h3, _, h4⟩ := run_append_own_at (P := Tryz.prog) (w := rtabW w) 0 39 ty 91 i0 (.agg #[.slice none 0 0, .slice none 0 0]) 2 48 Tryz.underlying39 hi hz0 hz1 hz2 rfl (by omega) tv n (rrowOf rows) h' ⟨w.heap.size, 0, none⟩ 1 1
  [.slice none 0 0, .slice none 0 0] rfl (fun j u hu => by
   have hB : Blk (rtabW w) w.heap.size 91 #[.slice none 0 0, .slice none 0 0] := Blk.new w _ _
   have hadd : (⟨w.heap.size, 0, none⟩ : Addr).add j = ⟨w.heap.size, 0 + j, none⟩ := by unfold Addr.add; split <;> simp_all
   rw [hadd, hB.cell, Nat.zero_add]
   simpa using hu) (by intro u hu; simp at hu; rcases hu with rfl | rfl <;> rfl) (by unfold maxLen; omega) (by omega) (Nat.zero_le _)
 refine ⟨v', w', h1, by rw [rrowOf_snoc]; exact h2, h3, ?_⟩
 rw [hsz] at h4
 exact h4
section
variable {w w' : World} {g : Nat} {tv tv' : Value} {H : Hp}
theorem RHeapIn.table (h : RHeapIn w g tv H) (rows : List (Value × Value)) (hr2 : rows.length = H.tabs.length) (hr3 : ∀ (i : Nat) (r : Value × Value) (T : Tb), rows[i]? = some r → H.tabs[i]? = some T → RTbAt w r T)
  (hrow : w'.ownsRow 0 91 2 tv' (H.tabs.length + 1) (rrowOf (rows ++ [(.slice none 0 0, .slice none 0 0)]))) (hg : (rtabW w).grownBy w' tv.ownBlock)
  (hv : tv'.ownBlock = tv.ownBlock ∨ tv'.ownBlock = some (w.heap.size + 1)) :
  RHeapIn (w'.setCell ⟨g, 0, none⟩ tv') g tv' ⟨H.tabs ++ [[]], H.cells, H.spent⟩ ∧ Touch (RFoot g tv) w (w'.setCell ⟨g, 0, none⟩ tv') ∧ (∀ x, RFoot g tv' x → RFoot g tv x ∨ w.heap.size ≤ x) := by
 have hgl := h.head.lt
 have hE : Ext w (rtabW w) := (Ext.refl w).alloc _
 have hsz : (rtabW w).heap.size = w.heap.size + 1 := size_alloc _ _
 have hT : Touch (RFoot g tv) w w' := (Touch.of_ext hE).grown hg fun x hx => .inr hx
 have hb : RB w' g tv H.cells H.spent := (hg.block g (by rw [hsz]; omega) (fun e => h.hrow e.symm)).trans ((hE.block g hgl).trans h.head)
 have hrow0 : ∀ k cs, w.heap[k]? = some (.cells cs 34 (0, 0)) → tv.ownBlock ≠ some k := fun k cs hc e => by
  rcases h.sort (.inr e) with ⟨cs', hc'⟩ | ⟨cs', hc'⟩ <;> (rw [hc] at hc'; injection Option.some.inj hc' with _ e; exact absurd e (by decide))
 refine ⟨⟨hb.set_ 0 tv', ⟨rows ++ [(.slice none 0 0, .slice none 0 0)], ?_, by simp [hr2], fun i r T hr hT => ?_⟩, fun T hT => ?_, h.ok.low, h.ok.le, h.ok.most⟩, hT.setg (.inl rfl) _, ?_⟩
 ·show (w'.setCell ⟨g, 0, none⟩ tv').ownsRow _ _ _ _ (H.tabs ++ [[]]).length _
  rw [List.length_append]
  obtain ⟨hl, hrow⟩ := hrow
  refine ⟨hl, ?_⟩
  rcases hrow with h1 | ⟨gb, cap, cur, e1, hb', hc, h2⟩
  ·exact .inl h1
  ·refine .inr ⟨gb, cap, cur, e1, hb', (Below.heap_setCell w' _ tv' gb ?_).trans hc, h2⟩
   rintro rfl
   unfold RB Blk at hb
   rw [hc] at hb
   have := Option.some.inj hb
   injection this with _ h3
   exact absurd h3 (by decide)
 ·have rowk : ∀ (v : Value) (l : List Vl), RowAt w v l → RowAt (w'.setCell ⟨g, 0, none⟩ tv') v l := fun v l hr => hr.of_heap fun k hk => by
   obtain ⟨hlt, cs, hc⟩ := hr.lt k hk
   refine (Below.heap_setCell w' _ tv' k ?_).trans ((hg.block k (by rw [hsz]; omega) (fun e => hrow0 k cs hc e.symm)).trans (hE.block k hlt))
   rintro rfl
   have := h.head
   unfold RB Blk at this
   rw [hc] at this
   injection Option.some.inj this with _ e
   exact absurd e (by decide)
  rcases Nat.lt_or_ge i rows.length with hi | hi
  ·rw [List.getElem?_append_left hi] at hr
   have hT' : H.tabs[i]? = some T := by
    have hi' : i < H.tabs.length := by rw [← hr2]; exact hi
    have : (H.tabs ++ [[]])[i]? = some T := hT
    rwa [List.getElem?_append_left hi'] at this
   obtain ⟨L, l1, l2, l3⟩ := hr3 i r T hr hT'
   exact ⟨L, l1, rowk _ _ l2, rowk _ _ l3⟩
  ·have e2 : (H.tabs ++ [[]])[i]? = some T := hT
   rw [List.getElem?_append_right hi] at hr
   rw [List.getElem?_append_right (by rw [← hr2]; exact hi)] at e2
   have hi0 : i - rows.length = 0 := by
    rcases Nat.eq_zero_or_pos (i - rows.length) with h0 | h0
    ·exact h0
    ·rw [List.getElem?_eq_none (by simp; omega)] at hr; cases hr
   rw [hi0] at hr
   rw [← hr2, hi0] at e2
   simp at hr e2
   subst hr
   subst e2
   exact ⟨[], TRow.nil, RowAt.nil _, RowAt.nil _⟩
 ·rcases List.mem_append.1 hT with hT | hT
  ·exact h.ok.tab T hT
  ·rw [List.mem_singleton] at hT; subst hT; exact tbOk_nil
 ·rintro x (rfl | hx)
  ·exact .inl (.inl rfl)
  ·rcases hv with hv | hv
   ·exact .inl (.inr (by rw [← hv]; exact hx))
   ·rw [hv] at hx
    have := Option.some.inj hx
    exact .inr (by omega)
end
set_option maxRecDepth 100000 in
theorem rtable_no (g : Nat) (tv : Value) (H : Hp) (w : World) (h : RHeapIn w g tv H) (hm : ¬ 1 ≤ H.cells - H.spent) :
  Calls Tryz.prog 59 #[.pointer (some ⟨g, 0, none⟩)] w fun e w' => e = .returned (.tuple #[Vl.zero.v, .string sMemory]) ∧ RHeapIn w' g tv H ∧ Touch (RFoot g tv) w w' := by
 have htk : tkB H.cells H.spent 1 = false := (tkB_no hm).symm
 have htc : tk H.cells H.spent 1 = H.spent := tk_no hm
 have b1 := h.ok.low
 have b2 := h.ok.le
 have b3 := h.ok.most
 have hg := h.head.lt
 have x1 : ¬ w.heap.size = g := by omega
 have HI := Lib.hid h
 have H4 := Lib.hid (h.ext ((Ext.refl w).alloc (.cells #[.int .i64 0, .int .i64 0, .string ⟨#[]⟩] 34)))
 clear hm h
 go_enter Tryz.func59, Tryz.ntmps59
 go_wp2_with fail
 refine (rtake_any g tv H.cells H.spent 1 _ H4.out.head b1 b2 b3 (by omega) (by omega)).mono ?_
 rintro e w5 ⟨rfl, ho5, hb5⟩
 rw [htc] at hb5
 have H5 := Lib.hid (H4.out.only ho5 _ _ hb5 b1 b2 b3)
 have HT5 := Lib.hid ((Touch.of_ext ((Ext.refl w).alloc (.cells #[.int .i64 0, .int .i64 0, .string ⟨#[]⟩] 34))).trans (Touch.only (F := RFoot g tv) ho5 (.inl rfl)))
 have j5 := ho5.lt1
 obtain ⟨s1, s2⟩ := ho5.cells
 have vB : Blk w5 w.heap.size 34 #[.int .i64 0, .int .i64 0, .string ⟨#[]⟩] := (Blk.new w _ _).only ho5 x1
 have HV := Lib.hid vB
 clear ho5 hb5 htc vB
 go_wp2_with fail
 refine bodyPost_ret (v := .tuple #[Vl.zero.v, .string sMemory]) (by simp [results, Tryz.results59, go_sem, sMemory, Vl.zero, *]) rfl ⟨rfl, ?_, ?_⟩
 ·refine H5.out.of_heap fun k cs t hc hty => ?_
  have same : ∀ u0 u1 u2, ((((w5.setCell ⟨w.heap.size, 0, none⟩ u0).setCell ⟨w.heap.size, 1, none⟩ u1).setCell ⟨w.heap.size, 2, none⟩ u2)).heap[k]? = if k = w.heap.size then some (.cells #[u0, u1, u2] 34 (0, 0)) else w5.heap[k]? := fun u0 u1 u2 => by
   split
   ·rename_i hk
    subst hk
    exact (((HV.out.set_ 0 u0).set_ 1 u1).set_ 2 u2)
   ·rename_i hk
    exact (Below.heap_setCell _ _ _ k hk).trans ((Below.heap_setCell _ _ _ k hk).trans (Below.heap_setCell _ _ _ k hk))
  rw [same]
  split
  ·rename_i hk
   subst hk
   exact HV.out.symm
  ·rfl
 ·refine HT5.out.transn (G := fun k => w.heap.size = k) (by repeat (first | exact Touch.refl _ _ | refine Touch.setg ?_ rfl _)) (fun x hx => .inr (by omega))
theorem rowT_far {w : World} {tv v : Value} {n : Nat} {xs : List Value} {k : Nat} {cs : Array Value} {t : TypeId} (h : w.ownsRow 0 91 2 tv n xs) (hk : w.heap[k]? = some (.cells cs t (0, 0))) (ht : t ≠ 91) (i : Nat) :
  (w.setCell ⟨k, i, none⟩ v).ownsRow 0 91 2 tv n xs := by
 obtain ⟨hl, hrow⟩ := h
 refine ⟨hl, ?_⟩
 rcases hrow with h1 | ⟨gb, cap, cur, e1, hb, hc, h2⟩
 ·exact .inl h1
 ·refine .inr ⟨gb, cap, cur, e1, hb, (Below.heap_setCell w _ v gb ?_).trans hc, h2⟩
  rintro rfl
  rw [hc] at hk
  injection Option.some.inj hk with _ e
  exact ht e.symm
theorem rowT_only {w w' : World} {g : Nat} {tv tv' : Value} {c s : Int} {n : Nat} {xs : List Value} (h : w.ownsRow 0 91 2 tv n xs) (hb : RB w g tv' c s) (ho : Only g w w') : w'.ownsRow 0 91 2 tv n xs := by
 obtain ⟨hl, hrow⟩ := h
 refine ⟨hl, ?_⟩
 rcases hrow with h1 | ⟨gb, cap, cur, e1, hb', hc, h2⟩
 ·exact .inl h1
 ·refine .inr ⟨gb, cap, cur, e1, hb', (ho.block gb (lt_of_block hc) (fun e => ?_)).trans hc, h2⟩
  obtain rfl := Option.some.inj e
  unfold RB Blk at hb
  rw [hc] at hb
  injection Option.some.inj hb with _ e
  exact absurd e (by decide)
theorem RHeapIn.mkTable {w wf : World} {g : Nat} {tv tv' : Value} {H : Hp} (h : RHeapIn w g tv H) (rows : List (Value × Value)) (hr2 : rows.length = H.tabs.length) (hr3 : ∀ (i : Nat) (r : Value × Value) (T : Tb), rows[i]? = some r → H.tabs[i]? = some T → RTbAt w r T)
  (ht : Touch (RFoot g tv) w wf) (c s : Int) (hb : RB wf g tv' c s) (hrow : wf.ownsRow 0 91 2 tv' (H.tabs.length + 1) (rrowOf (rows ++ [(.slice none 0 0, .slice none 0 0)]))) (hs : 0 ≤ s) (hc : s ≤ c) (hm : c ≤ 9223372036854775807) :
  RHeapIn wf g tv' ⟨H.tabs ++ [[]], c, s⟩ := by
 have rowk : ∀ (v : Value) (l : List Vl), RowAt w v l → RowAt wf v l := fun v l hr => hr.of_heap fun k hk => by
  obtain ⟨hlt, cs, hc⟩ := hr.lt k hk
  refine ht.block k hlt (fun hf => ?_)
  rcases h.sort hf with ⟨cs', hc'⟩ | ⟨cs', hc'⟩ <;> (rw [hc] at hc'; injection Option.some.inj hc' with _ e; exact absurd e (by decide))
 refine ⟨hb, ⟨rows ++ [(.slice none 0 0, .slice none 0 0)], ?_, by simp [hr2], fun i r T hr hT => ?_⟩, fun T hT => ?_, hs, hc, hm⟩
 ·show wf.ownsRow _ _ _ _ (H.tabs ++ [[]]).length _
  rw [List.length_append]
  exact hrow
 ·rcases Nat.lt_or_ge i rows.length with hi | hi
  ·rw [List.getElem?_append_left hi] at hr
   have hT' : H.tabs[i]? = some T := by
    have hi' : i < H.tabs.length := by rw [← hr2]; exact hi
    have : (H.tabs ++ [[]])[i]? = some T := hT
    rwa [List.getElem?_append_left hi'] at this
   obtain ⟨L, l1, l2, l3⟩ := hr3 i r T hr hT'
   exact ⟨L, l1, rowk _ _ l2, rowk _ _ l3⟩
  ·have e2 : (H.tabs ++ [[]])[i]? = some T := hT
   rw [List.getElem?_append_right hi] at hr
   rw [List.getElem?_append_right (by rw [← hr2]; exact hi)] at e2
   have hi0 : i - rows.length = 0 := by
    rcases Nat.eq_zero_or_pos (i - rows.length) with h0 | h0
    ·exact h0
    ·rw [List.getElem?_eq_none (by simp; omega)] at hr; cases hr
   rw [hi0] at hr
   rw [← hr2, hi0] at e2
   simp at hr e2
   subst hr
   subst e2
   exact ⟨[], TRow.nil, RowAt.nil _, RowAt.nil _⟩
 ·rcases List.mem_append.1 hT with hT | hT
  ·exact h.ok.tab T hT
  ·rw [List.mem_singleton] at hT; subst hT; exact tbOk_nil
set_option maxRecDepth 100000 in
theorem rtable_yes (g : Nat) (tv : Value) (H : Hp) (w : World) (h : RHeapIn w g tv H) (hm : 1 ≤ H.cells - H.spent) (hn : H.tabs.length ≤ 1000000000000) :
  Calls Tryz.prog 59 #[.pointer (some ⟨g, 0, none⟩)] w fun e w' => e = .returned (.tuple #[.agg #[.int .i64 4, .int .i64 (H.tabs.length : Int), .string sNone], .string sNone]) ∧
   ∃ tv', RHeapIn w' g tv' ⟨H.tabs ++ [[]], H.cells, H.spent + 1⟩ ∧ Touch (RFoot g tv) w w' ∧ (∀ x, RFoot g tv' x → RFoot g tv x ∨ w.heap.size ≤ x) := by
 have htk : tkB H.cells H.spent 1 = true := (tkB_yes hm).symm
 have htc : tk H.cells H.spent 1 = H.spent + 1 := tk_yes hm
 have b1 := h.ok.low
 have b2 := h.ok.le
 have b3 := h.ok.most
 have hg := h.head.lt
 have x1 : ¬ w.heap.size = g := by omega
 have hm' : H.spent + 1 ≤ H.cells := by omega
 have HI := Lib.hid h
 have H4 := Lib.hid (h.ext ((Ext.refl w).alloc (.cells #[.int .i64 0, .int .i64 0, .string ⟨#[]⟩] 34)))
 clear hm h
 go_enter Tryz.func59, Tryz.ntmps59
 go_wp2_with fail
 refine (rtake_any g tv H.cells H.spent 1 _ H4.out.head b1 b2 b3 (by omega) (by omega)).mono ?_
 rintro e w5 ⟨rfl, ho5, hb5⟩
 rw [htc] at hb5
 have h5 := H4.out.only ho5 _ _ hb5 (by omega) hm' b3
 have HT5 := Lib.hid ((Touch.of_ext ((Ext.refl w).alloc (.cells #[.int .i64 0, .int .i64 0, .string ⟨#[]⟩] 34))).trans (Touch.only (F := RFoot g tv) ho5 (.inl rfl)))
 have vB : Blk w5 w.heap.size 34 #[.int .i64 0, .int .i64 0, .string ⟨#[]⟩] := (Blk.new w _ _).only ho5 x1
 have j5 := ho5.lt1
 obtain ⟨s1, s2⟩ := ho5.cells
 obtain ⟨rows, hrow0, hr2, hr3⟩ := HI.out.rows
 have hrow := rowT_only (own_ext hrow0 ((Ext.refl w).alloc (.cells #[.int .i64 0, .int .i64 0, .string ⟨#[]⟩] 34))) H4.out.head ho5
 obtain ⟨v2, w2, happ, hrow2, hgr, hov⟩ := app_rtab w5 39 tv H.tabs.length rows hrow hn
 have hT2 : Touch (RFoot g tv) w5 w2 := (Touch.of_ext ((Ext.refl w5).alloc _)).grown hgr fun x hx => .inr hx
 have HOV := Lib.hid hov
 have HR2 := Lib.hid (And.intro hr2 hr3)
 have HT2 := Lib.hid hT2
 have hg5 : g < w5.heap.size := h5.head.lt
 have t0 : w5.cell? ⟨g, 0, none⟩ = some tv := h5.head.cell 0
 have hsz : (rtabW w5).heap.size = w5.heap.size + 1 := size_alloc _ _
 have hE : Ext w5 (rtabW w5) := (Ext.refl w5).alloc _
 have gB : w2.heap[g]? = w5.heap[g]? := (hgr.block g (by rw [hsz]; omega) (fun e => h5.hrow e.symm)).trans (hE.block g hg5)
 have xB : w2.heap[w.heap.size]? = w5.heap[w.heap.size]? := (hgr.block _ (by rw [hsz]; omega) (fun e => by have := HI.out.low (.inr e.symm); omega)).trans (hE.block _ j5)
 have HV2 : Hid (Blk w2 w.heap.size 34 #[.int .i64 0, .int .i64 0, .string ⟨#[]⟩]) := Lib.hid (xB.trans vB)
 have c0 : w2.cell? ⟨g, 0, none⟩ = some tv := (World.cell?_of_block gB).trans t0
 have g0 : w2.frozen? ⟨g, 0, none⟩ = false := (World.frozen?_of_block gB).trans (h5.head.frozen 0)
 have c1 : ∀ o, w2.cell? ⟨w.heap.size, o, none⟩ = w5.cell? ⟨w.heap.size, o, none⟩ := fun o => World.cell?_of_block xB
 have c2 : ∀ o, w2.frozen? ⟨w.heap.size, o, none⟩ = w5.frozen? ⟨w.heap.size, o, none⟩ := fun o => World.frozen?_of_block xB
 have jg : w.heap.size < w2.heap.size := by have := hgr.size; rw [hsz] at this; omega
 obtain ⟨q, cap, hv2⟩ := rrow_form hrow2
 subst hv2
 have HB2 : Hid (RB w2 g tv H.cells (H.spent + 1)) := Lib.hid (gB.trans h5.head)
 have HRW := Lib.hid hrow2
 clear ho5 hb5 htc h5 hrow hrow0 hrow2 hr2 hr3 hgr hov gB xB hE hsz vB hT2
 go_wp2_with (at_builtin; refine wpList_append_run rfl _ _ 39 rfl _ _ _ w2 rfl rfl happ ?_)
 refine bodyPost_ret (v := .tuple #[.agg #[.int .i64 4, .int .i64 (H.tabs.length : Int), .string sNone], .string sNone]) (by simp [results, Tryz.results59, go_sem, sNone, *]) rfl ?_
 have hTf : Touch (RFoot g tv) w ((((w2.setCell ⟨g, 0, none⟩ (.slice q (H.tabs.length + 1) cap)).setCell ⟨w.heap.size, 0, none⟩ (.int .i64 4)).setCell ⟨w.heap.size, 1, none⟩ (.int .i64 (H.tabs.length : Int))).setCell ⟨w.heap.size, 2, none⟩ (.string ⟨#[]⟩)) :=
  ((HT5.out.trans HT2.out).setg (.inl rfl) _).transn (G := fun k => w.heap.size = k) (by repeat (first | exact Touch.refl _ _ | refine Touch.setg ?_ rfl _)) (fun x hx => .inr (by omega))
 have hb1 := HB2.out.set_ 0 (.slice q (H.tabs.length + 1) cap)
 have hv1 := HV2.out.far (p := ⟨g, 0, none⟩) (by exact x1) (.slice q (H.tabs.length + 1) cap)
 have hv2 := hv1.set_ 0 (.int .i64 4)
 have hv3 := hv2.set_ 1 (.int .i64 (H.tabs.length : Int))
 refine ⟨rfl, .slice q (H.tabs.length + 1) cap, HI.out.mkTable rows HR2.out.1 HR2.out.2 hTf _ _ ?_ ?_ (by omega) hm' b3, hTf, ?_⟩
 ·exact ((hb1.far (p := ⟨w.heap.size, 0, none⟩) (by exact fun e => x1 e.symm) _).far (p := ⟨w.heap.size, 1, none⟩) (by exact fun e => x1 e.symm) _).far (p := ⟨w.heap.size, 2, none⟩) (by exact fun e => x1 e.symm) _
 ·exact rowT_far (rowT_far (rowT_far (rowT_far HRW.out HB2.out (by decide) 0) hv1 (by decide) 0) hv2 (by decide) 1) hv3 (by decide) 2
 ·rintro x (rfl | hx)
  ·exact .inl (.inl rfl)
  ·rcases HOV.out with hv | hv
   ·exact .inl (.inr (by rw [← hv]; exact hx))
   ·rw [hv] at hx
    have := Option.some.inj hx
    exact .inr (by omega)
end Go.Proofs.YtlfihdcgbhdajaaGreatDoor
namespace Go.Proofs.YtlfihdcgbhdajaaGreatDoor
open Go.RowKit
set_option linter.unusedVariables false
set_option linter.unusedSimpArgs false

theorem rset_any (g : Nat) (tv : Value) (H : Hp) (t k v : Vl) (w : World) (h : RHeapIn w g tv H) (hlen : H.tabs.length ≤ 9223372036854775807) (hk : in64 k.n) (hvn : in64 v.n) :
  Calls Tryz.prog 60 #[.pointer (some ⟨g, 0, none⟩), t.v, k.v, v.v] w fun e w' => e = .returned (.string (setW H t k v)) ∧ RHeapIn w' g tv (setH H t k v) ∧ Touch (RFoot g tv) w w' := by
 have ext : ∀ o : ByteArray, setW H t k v = o → setH H t k v = H → (Calls Tryz.prog 60 #[.pointer (some ⟨g, 0, none⟩), t.v, k.v, v.v] w fun e w' => e = .returned (.string o) ∧ Ext w w') →
   Calls Tryz.prog 60 #[.pointer (some ⟨g, 0, none⟩), t.v, k.v, v.v] w fun e w' => e = .returned (.string (setW H t k v)) ∧ RHeapIn w' g tv (setH H t k v) ∧ Touch (RFoot g tv) w w' := by
  intro o e eh hc
  rw [e, eh]
  exact hc.mono fun _ _ ⟨h1, h2⟩ => ⟨h1, h.ext h2, .of_ext h2⟩
 have no : ∀ o : ByteArray, ¬ o = sNone → setW H t k v = o → (Calls Tryz.prog 60 #[.pointer (some ⟨g, 0, none⟩), t.v, k.v, v.v] w fun e w' => e = .returned (.string o) ∧ Ext w w') →
   Calls Tryz.prog 60 #[.pointer (some ⟨g, 0, none⟩), t.v, k.v, v.v] w fun e w' => e = .returned (.string (setW H t k v)) ∧ RHeapIn w' g tv (setH H t k v) ∧ Touch (RFoot g tv) w w' :=
  fun o ho e => ext o e (setH_no (by rw [e]; exact ho))
 cases hv : v.ck with
 | false => exact no sType sNone_ne.2.1 (by unfold setW; rw [hv]; rfl) (rset_type g tv H t k v w h hlen hv)
 | true =>
  by_cases hn : getW H t k = sNone
  ·by_cases hf : (getV H t k).k = 0
   ·by_cases h0 : v.k = 0
    ·have hw := (setH_old hv hn (by unfold freshB; simp [h0])).1
     exact ext sNone hw (set_same hw hf h0 h.ok) (rset_none g tv H t k v w h hlen hv hn hf h0)
    ·have hb : freshB H t k v = true := by unfold freshB; simp [hf, h0]
     by_cases hl : (tabOf H t).length < 65536
     ·by_cases hm : 1 ≤ H.cells - H.spent
      ·rw [(setH_fresh hv hn hf h0 hl hm).1]
       exact rset_new g tv H t k v w h hlen hv hn hf h0 hl hm hk hvn
      ·have e : setW H t k v = sMemory := by unfold setW; rw [if_pos hv, if_pos hn, if_pos hb, if_neg (by omega), if_neg hm]
       rw [e, setH_no (by rw [e]; exact sNone_ne.2.2.2)]
       exact rset_mem g tv H t k v w h hlen hv hn hf h0 hl hm
     ·exact no sLong sNone_ne.2.2.1 (by unfold setW; rw [if_pos hv, if_pos hn, if_pos hb, if_pos (by omega)]) (rset_long g tv H t k v w h hlen hv hn hf h0 (by omega))
   ·rw [(setH_old hv hn (by unfold freshB; simp [hf])).1]
    by_cases h0 : v.k = 0
    ·exact rset_old_no g tv H t k v w h hlen hv hn hf hk hvn h0
    ·exact rset_old_yes g tv H t k v w h hlen hv hn hf hk hvn h0
  ·exact no _ hn (by unfold setW; rw [hv, if_pos rfl, if_neg hn]) (rset_why g tv H t k v w h hlen hv (fun hl => hn (toList_nil hl)))
end Go.Proofs.YtlfihdcgbhdajaaGreatDoor
