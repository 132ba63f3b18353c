/- The document's small functions: how its heap is behind a step; number, text; the law's table. The document's table with a text under a key. The document's value of a reply: all kinds but a list. -/
import Derived.Test.YtlfihdcgbhdajaaGreatDoorYD3
import Derived.Test.YtlfihdcgbhdajaaGreatDoorYD1
import Derived.Test.YtlfihdcgbhdajaaGreatDoorYB6
import Derived.Deep.RegionHeld3
namespace Go.Proofs.YtlfihdcgbhdajaaGreatDoor
open Go.RowKit
set_option linter.unusedVariables false
set_option linter.unusedSimpArgs false

structure RS (w : World) (g : Nat) (tv : Value) (w' : World) (tv' : Value) (H' : Hp) : Prop where
 heap : RHeapIn w' g tv' H'
 touch : Touch (RFoot g tv) w w'
 foot : ∀ x, RFoot g tv' x → RFoot g tv x ∨ w.heap.size ≤ x
def RStep (w : World) (g : Nat) (tv : Value) (w' : World) (H' : Hp) : Prop := ∃ tv', RS w g tv w' tv' H'
section
variable {w w1 w2 : World} {g : Nat} {tv tv1 tv2 : Value} {H H1 H2 : Hp}
theorem RS.of_ext (h : RHeapIn w g tv H) (he : Ext w w1) : RS w g tv w1 tv H := ⟨h.ext he, .of_ext he, fun _ hx => .inl hx⟩
theorem RS.of_touch (h : RHeapIn w1 g tv H1) (ht : Touch (RFoot g tv) w w1) : RS w g tv w1 tv H1 := ⟨h, ht, fun _ hx => .inl hx⟩
theorem RS.trans (a : RS w g tv w1 tv1 H1) (b : RS w1 g tv1 w2 tv2 H2) : RS w g tv w2 tv2 H2 :=
 ⟨b.heap, a.touch.transn b.touch a.foot, fun x hx => by
  rcases b.foot x hx with h | h
  ·exact a.foot x h
  ·exact .inr (Nat.le_trans a.touch.size h)⟩
theorem RS.ext (a : RS w g tv w1 tv1 H1) (he : Ext w1 w2) : RS w g tv w2 tv1 H1 := ⟨a.heap.ext he, a.touch.ext he, a.foot⟩
theorem RS.pre (he : Ext w w1) (a : RS w1 g tv w2 tv2 H2) : RS w g tv w2 tv2 H2 :=
 ⟨a.heap, Touch.pre he a.touch, fun x hx => (a.foot x hx).imp id (fun h => Nat.le_trans he.size h)⟩
theorem RS.step (a : RS w g tv w1 tv1 H1) : RStep w g tv w1 H1 := ⟨_, a⟩
end
abbrev zcells : Array Value := #[.int .i64 0, .int .i64 0, .string ⟨#[]⟩]
theorem RowAt.zeroed {w w' : World} {v : Value} {l : List Vl} {B : Nat} {u0 u1 u2 : Value} (h : RowAt w v l) (hl : ∀ x ∈ l, ¬ x.k = 0) (hz : Blk w B 34 zcells) (hB : Blk w' B 34 #[u0, u1, u2])
  (he : ∀ k, k ≠ B → k < w.heap.size → w'.heap[k]? = w.heap[k]?) : RowAt w' v l := by
 obtain ⟨hn, hrow⟩ := h
 refine ⟨hn, ?_⟩
 rcases hrow with h1 | ⟨gb, cap, cur, e1, hb, hc, h2, h3, h4, h5⟩
 ·exact .inl h1
 ·by_cases hg : gb = B
  ·subst hg
   unfold Blk at hz
   rw [hz] at hc
   have hcur : zcells = cur := by injection Option.some.inj hc
   subst hcur
   have h4' : 3 = cap * 3 := h4
   have hcap : cap = 1 := by omega
   subst hcap
   cases l with
   | nil => exact .inr ⟨gb, 1, _, e1, hb, hB, h2, h3, rfl, by simp [flat]⟩
   | cons x r =>
    exfalso
    have hr : r = [] := by
     cases r with
     | nil => rfl
     | cons y s => simp at h2
    subst hr
    have h6 := congrArg (fun z : List Value => z[0]?) h5
    simp [flat, vcells] at h6
    exact hl x (by simp) h6.symm
  ·exact .inr ⟨gb, cap, cur, e1, hb, (he gb hg (lt_of_block hc)).trans hc, h2, h3, h4, h5⟩
theorem TRow.some {L T : Tb} (h : TRow L T) (hT : TbOk T) : ∀ x ∈ L, ¬ x.1.k = 0 ∧ ¬ x.2.k = 0 := by
 rintro ⟨k, v⟩ hx
 have h1 := mget_of_mem h.once hx
 rw [← h.get] at h1
 have h2 : (k, v) ∈ T := by
  have : ∀ (m : Tb), mget m k = Option.some v → (k, v) ∈ m := by
   intro m
   induction m with
   | nil => intro e; simp [mget] at e
   | cons y m ih =>
    intro e
    obtain ⟨a, b⟩ := y
    unfold mget at e
    split at e
    ·rename_i hk
     first
      | (obtain rfl := Option.some.inj e; subst hk; simp)
      | (obtain rfl := Option.some.inj e; simp [hk])
    ·exact List.mem_cons_of_mem _ (ih e)
  exact this T h1
 refine ⟨?_, (hT.val _ h2).some⟩
 have := (hT.key _ h2).kind
 simp only at this ⊢
 omega
theorem RHeapIn.zeroed {w w' : World} {g B : Nat} {tv : Value} {R : Hp} {u0 u1 u2 : Value} (h : RHeapIn w g tv R) (hz : Blk w B 34 zcells) (hB : Blk w' B 34 #[u0, u1, u2])
  (he : ∀ k, k ≠ B → k < w.heap.size → w'.heap[k]? = w.heap[k]?) : RHeapIn w' g tv R := by
 have hgB : g ≠ B := by
  rintro rfl
  have := h.head
  unfold RB Blk at this
  unfold Blk at hz
  rw [this] at hz
  injection Option.some.inj hz with _ e
  exact absurd e (by decide)
 obtain ⟨rows, ⟨hl, hrow⟩, h2, h3⟩ := h.rows
 refine ⟨(he g hgB (lt_of_block h.head)).trans h.head, ⟨rows, ⟨hl, ?_⟩, h2, fun i r T hr hT => ?_⟩, h.ok⟩
 ·rcases hrow with h1 | ⟨gb, cap, cur, e1, hb, hc, hq⟩
  ·exact .inl h1
  ·refine .inr ⟨gb, cap, cur, e1, hb, (he gb ?_ (lt_of_block hc)).trans hc, hq⟩
   rintro rfl
   unfold Blk at hz
   rw [hc] at hz
   injection Option.some.inj hz with _ e
   exact absurd e (by decide)
 ·obtain ⟨L, l1, l2, l3⟩ := h3 i r T hr hT
  have hs := l1.some (h.ok.tab T (List.mem_of_getElem? hT))
  refine ⟨L, l1, l2.zeroed (fun x hx => ?_) hz hB he, l3.zeroed (fun x hx => ?_) hz hB he⟩
  ·obtain ⟨y, hy, rfl⟩ := List.mem_map.1 hx
   exact (hs y hy).1
  ·obtain ⟨y, hy, rfl⟩ := List.mem_map.1 hx
   exact (hs y hy).2
theorem RS.zeroed {w w1 : World} {g B : Nat} {tv tv1 : Value} {H1 : Hp} (a : RS w g tv w1 tv1 H1) (hz : Blk w1 B 34 zcells) (hn : w.heap.size ≤ B) (u0 u1 u2 : Value) :
  RS w g tv (((w1.setCell ⟨B, 0, none⟩ u0).setCell ⟨B, 1, none⟩ u1).setCell ⟨B, 2, none⟩ u2) tv1 H1 := by
 have hB := ((hz.set_ 0 u0).set_ 1 u1).set_ 2 u2
 have he : ∀ k, k ≠ B → (((w1.setCell ⟨B, 0, none⟩ u0).setCell ⟨B, 1, none⟩ u1).setCell ⟨B, 2, none⟩ u2).heap[k]? = w1.heap[k]? := fun k hk =>
  (Below.heap_setCell _ _ _ k hk).trans ((Below.heap_setCell _ _ _ k hk).trans (Below.heap_setCell _ _ _ k hk))
 exact ⟨a.heap.zeroed hz hB fun k hk _ => he k hk, ⟨a.touch.os, a.touch.tape, a.touch.output, by simpa [World.setCell] using a.touch.size, fun k hk h => (he k (by omega)).trans (a.touch.block k hk h)⟩, a.foot⟩
section
variable {w w1 w' : World} {g k : Nat} {tv tv' : Value} {H' : Hp}
theorem Blk.rstep {t : TypeId} {cs : Array Value} (h : Blk w k t cs) (hs : RS w g tv w' tv' H') (hn : ¬ RFoot g tv k) : Blk w' k t cs := (hs.touch.block k h.lt hn).trans h
theorem RS.notin (hs : RS w g tv w' tv' H') (hk : k < w.heap.size) (hn : ¬ RFoot g tv k) : ¬ RFoot g tv' k := fun hx => by
 rcases hs.foot k hx with h | h
 ·exact hn h
 ·omega
end
theorem rmake_step (g : Nat) (tv : Value) (H : Hp) (s : ByteArray) (w : World) (h : RHeapIn w g tv H) (hz : s.size ≤ 9223372036854775807) :
  Calls Tryz.prog 57 #[.pointer (some ⟨g, 0, none⟩), .string s] w fun e w' => e = .returned (.tuple #[(mkV H.cells H.spent s).v, .string (mkW H.cells H.spent s)]) ∧ RS w g tv w' tv (mkH H s) :=
 (rmake_any g tv H.cells H.spent s w h.head h.ok.low h.ok.le h.ok.most hz).mono fun e w' ⟨he, ho, hb⟩ =>
  ⟨he, ⟨h.only ho _ _ hb (mkC_le h.ok.le h.ok.low).1 (mkC_le h.ok.le h.ok.low).2 h.ok.most, .only ho (.inl rfl), fun _ hx => .inl hx⟩⟩
theorem rtable_step (g : Nat) (tv : Value) (H : Hp) (w : World) (h : RHeapIn w g tv H) (hn : H.tabs.length ≤ 1000000000000) :
  Calls Tryz.prog 59 #[.pointer (some ⟨g, 0, none⟩)] w fun e w' => e = .returned (.tuple #[(tabV H).v, .string (tabW H)]) ∧ ∃ tv', RS w g tv w' tv' (tabH H) := by
 by_cases hm : 1 ≤ H.cells - H.spent
 ·refine (rtable_yes g tv H w h hm hn).mono ?_
  rintro e w' ⟨rfl, tv', h1, h2, h3⟩
  unfold tabV tabW tabH
  rw [if_pos hm, if_pos hm, if_pos hm]
  exact ⟨rfl, tv', h1, h2, h3⟩
 ·refine (rtable_no g tv H w h hm).mono ?_
  rintro e w' ⟨rfl, h1, h2⟩
  unfold tabV tabW tabH
  rw [if_neg hm, if_neg hm, if_neg hm]
  exact ⟨rfl, tv, .of_touch h1 h2⟩
theorem rset_step (g : Nat) (tv : Value) (H : Hp) (t k v : Vl) (w : World) (h : RHeapIn w g tv H) (hlen : H.tabs.length ≤ 9223372036854775807) (hk : in64 k.n) (hvn : in64 v.n) :
  Calls Tryz.prog 60 #[.pointer (some ⟨g, 0, none⟩), t.v, k.v, v.v] w fun e w' => e = .returned (.string (setW H t k v)) ∧ RS w g tv w' tv (setH H t k v) :=
 (rset_any g tv H t k v w h hlen hk hvn).mono fun e w' ⟨he, h1, h2⟩ => ⟨he, .of_touch h1 h2⟩
theorem rnum16 (n : Int) (w : World) : Calls Tryz.prog 56 #[.int .i64 n] w fun e w' => e = .returned (iK n).v ∧ Ext w w' := by
 go_enter Tryz.func56, Tryz.ntmps56
 go_wp2_with fail
 exact bodyPost_ret (v := (iK n).v) (by simp [results, Tryz.results56, go_sem, iK, sNone]) rfl ⟨rfl, by repeat (first | exact Ext.refl _ | refine Ext.alloc ?_ _ | refine Ext.setCell ?_ (by simp <;> omega) _)⟩
theorem rtxt16 (s : ByteArray) (w : World) : Calls Tryz.prog 85 #[.string s] w fun e w' => e = .returned (tK s).v ∧ Ext w w' := by
 go_enter Tryz.func85, Tryz.ntmps85
 go_wp2_with fail
 exact bodyPost_ret (v := (tK s).v) (by simp [results, Tryz.results85, go_sem, tK]) rfl ⟨rfl, by repeat (first | exact Ext.refl _ | refine Ext.alloc ?_ _ | refine Ext.setCell ?_ (by simp <;> omega) _)⟩
end Go.Proofs.YtlfihdcgbhdajaaGreatDoor
namespace Go.Proofs.YtlfihdcgbhdajaaGreatDoor
open Go.RowKit
set_option linter.unusedVariables false
set_option linter.unusedSimpArgs false

def RvE (w : World) (g : Nat) (tv : Value) (r : Br3) (e : Ending) (w' : World) : Prop := e = .returned (.tuple #[r.2.1.v, .string r.1]) ∧ RStep w g tv w' r.2.2
theorem RvE.mk {w w' : World} {g : Nat} {tv tv' : Value} {r : Br3} {o : ByteArray} {x : Vl} {Hx : Hp} (hr : r = (o, x, Hx)) (hs : RS w g tv w' tv' Hx) : RvE w g tv r (.returned (.tuple #[x.v, .string o])) w' := by
 subst hr
 exact ⟨rfl, hs.step⟩
theorem str_ne_empty {s : ByteArray} (h : ¬ s = sNone) : s.toList.isEmpty = false := by
 cases hw : s.toList with
 | nil => exact absurd (toList_nil hw) h
 | cons _ _ => rfl
set_option maxRecDepth 100000 in
set_option maxHeartbeats 2000000 in
theorem rund (g : Nat) (tv : Value) (H : Hp) (w : World) (h : RHeapIn w g tv H) (hlen : H.tabs.length ≤ 1000000000) (key s : ByteArray) (hz : s.size ≤ 9223372036854775807) :
  Calls Tryz.prog 58 #[.pointer (some ⟨g, 0, none⟩), .string key, .string s] w (RvE w g tv (underP H key s)) := by
 have HE := Lib.hid ((Ext.refl w).alloc (.cells #[.int .i64 0, .int .i64 0, .string ⟨#[]⟩] 34))
 have HB := Lib.hid (Blk.new w 34 zcells)
 have HI := Lib.hid (h.ext HE.out)
 have NB : Hid (¬ RFoot g tv w.heap.size) := Lib.hid (fun hx => by have := h.low hx; omega)
 obtain ⟨r, hr⟩ : ∃ r, underP H key s = r := ⟨_, rfl⟩
 rw [hr]
 have HR := Lib.hid hr
 obtain ⟨tw, htw⟩ : ∃ tw, tabW H = tw := ⟨_, rfl⟩
 have hc := fun (W : World) (hW : RHeapIn W g tv H) => rtable_step g tv H W hW (by omega)
 rw [htw] at hc
 have HC0 := Lib.hid hc
 have HTW := Lib.hid htw
 have HL : Hid ((tabH H).tabs.length ≤ 9223372036854775807) := Lib.hid (by have := tabH_len H; omega)
 have hq : sNone.toList = [] := sNone_list
 clear h hc htw hr
 go_enter Tryz.func58, Tryz.ntmps58
 go_wp2_with fail
 refine (HC0.out _ HI.out).mono ?_
 rintro e w1 ⟨rfl, tv1, s1⟩
 obtain ⟨t, ht⟩ : ∃ t, tabV H = t := ⟨_, rfl⟩
 have HT := Lib.hid ht
 rw [ht]
 clear ht
 obtain ⟨tk, tn, ts⟩ := t
 have e8 := (Ext.refl w1).alloc (.cells #[.int .i64 tk, .int .i64 tn, .string ts] 34)
 have S1 := Lib.hid (RS.ext s1 e8)
 have T8 := Lib.hid (Blk.new w1 34 #[.int .i64 tk, .int .i64 tn, .string ts])
 have N8 : Hid (¬ RFoot g tv1 w1.heap.size) := Lib.hid (fun hx => by have := s1.heap.low hx; omega)
 have hlt1 : w.heap.size < w1.heap.size := Nat.lt_of_lt_of_le HB.out.lt s1.touch.size
 have YB1 := Lib.hid (HB.out.rstep s1 NB.out)
 have SS1 := Lib.hid s1
 clear s1 e8
 rcases Decidable.em (tw = sNone) with hs | hs
 rotate_left
 ·have YB := Lib.hid (HB.out.rstep S1.out NB.out)
  obtain ⟨z0, z1, z2, y0, y1, y2⟩ := three YB1.out
  have hlt := YB1.out.lt
  have hq2 := str_ne_empty hs
  have hq3 := ne_list hs
  go_wp2_with fail
  have hr2 : r = (tw, Vl.zero, tabH H) := by
   rw [← HR.out]
   unfold underP
   rw [HTW.out, if_neg hs]
  exact bodyPost_ret (v := .tuple #[Vl.zero.v, .string tw]) (by simp [results, Tryz.results58, go_sem, Vl.zero, sNone, *]) rfl (RvE.mk hr2 (((RS.pre HE.out SS1.out).zeroed YB1.out (Nat.le_refl _) _ _ _).ext ((Ext.refl _).alloc _)))
 subst hs
 go_wp2_with fail
 generalize w1.alloc (.cells #[.int .i64 tk, .int .i64 tn, .string ts] 34) = W at *
 obtain ⟨b8, h8⟩ : ∃ b8, w1.heap.size = b8 := ⟨_, rfl⟩
 rw [h8] at T8 N8 hlt1 ⊢
 clear h8
 obtain ⟨mw, hmw⟩ : ∃ mw, mkW (tabH H).cells (tabH H).spent s = mw := ⟨_, rfl⟩
 obtain ⟨mv, hmv⟩ : ∃ mv, mkV (tabH H).cells (tabH H).spent s = mv := ⟨_, rfl⟩
 have HMV : Hid (mw = sNone → mv = tK s) := Lib.hid (fun hh => by rw [← hmv]; exact mkV_yes (hmw.trans hh))
 have hc := fun (Z : World) (hZ : RHeapIn Z g tv1 (tabH H)) => rmake_step g tv1 (tabH H) s Z hZ hz
 rw [hmw, hmv] at hc
 refine (hc _ S1.out.heap).mono ?_
 rintro e w2 ⟨rfl, s2⟩
 have HMW := Lib.hid hmw
 clear hmw hmv hc
 obtain ⟨mk, mn, ms⟩ := mv
 have e9 := (Ext.refl w2).alloc (.cells #[.int .i64 mk, .int .i64 mn, .string ms] 34)
 have S2 := Lib.hid (RS.ext s2 e9)
 have TA := Lib.hid (Blk.new w2 34 #[.int .i64 mk, .int .i64 mn, .string ms])
 have NA : Hid (¬ RFoot g tv1 w2.heap.size) := Lib.hid (fun hx => by have := s2.heap.low hx; omega)
 have hlt2 : b8 < w2.heap.size := Nat.lt_of_lt_of_le T8.out.lt s2.touch.size
 have YB2 := Lib.hid ((HB.out.rstep S1.out NB.out).rstep s2 (S1.out.notin HB.out.lt NB.out))
 have SS2 := Lib.hid s2
 clear s2 e9
 have YB := Lib.hid ((HB.out.rstep S1.out NB.out).rstep S2.out (S1.out.notin HB.out.lt NB.out))
 have Y8 := Lib.hid (T8.out.rstep S2.out N8.out)
 have MB := Lib.hid (S2.out.notin (HB.out.rstep S1.out NB.out).lt (S1.out.notin HB.out.lt NB.out))
 have M8 := Lib.hid (S2.out.notin T8.out.lt N8.out)
 rcases Decidable.em (mw = sNone) with hs | hs
 rotate_left
 ·obtain ⟨z0, z1, z2, y0, y1, y2⟩ := three YB2.out
  have hlt := YB2.out.lt
  have hq2 := str_ne_empty hs
  have hq3 := ne_list hs
  go_wp2_with fail
  have hr2 : r = (mw, Vl.zero, mkH (tabH H) s) := by
   rw [← HR.out]
   unfold underP
   rw [if_pos HTW.out, ← tabH_cells H, HMW.out, if_neg hs]
  exact bodyPost_ret (v := .tuple #[Vl.zero.v, .string mw]) (by simp [results, Tryz.results58, go_sem, Vl.zero, sNone, *]) rfl (RvE.mk hr2 (((RS.pre HE.out (S1.out.trans SS2.out)).zeroed YB2.out (Nat.le_refl _) _ _ _).ext ((Ext.refl _).alloc _)))
 subst hs
 go_wp2_with fail
 generalize w2.alloc (.cells #[.int .i64 mk, .int .i64 mn, .string ms] 34) = W2 at *
 obtain ⟨bA, hA⟩ : ∃ bA, w2.heap.size = bA := ⟨_, rfl⟩
 rw [hA] at TA NA hlt2 ⊢
 clear hA
 have HM2 : Hid ((⟨mk, mn, ms⟩ : Vl) = tK s) := Lib.hid (HMV.out (by first | rfl | trivial))
 clear HMV SS1 SS2 YB1 YB2
 have KS : Hid (∀ wc Hx, RS W2 g tv1 wc tv1 Hx → (fun w' => w'.cell? ⟨b8, 0, none⟩ = some (.int .i64 tk) ∧ w'.cell? ⟨b8, 1, none⟩ = some (.int .i64 tn) ∧ w'.cell? ⟨b8, 2, none⟩ = some (.string ts) ∧ w'.cell? ⟨bA, 0, none⟩ = some (.int .i64 mk) ∧ w'.cell? ⟨bA, 1, none⟩ = some (.int .i64 mn) ∧ w'.cell? ⟨bA, 2, none⟩ = some (.string ms)) wc) := Lib.hid (fun wc Hx hs =>
  ⟨(Y8.out.rstep hs M8.out).cell 0, (Y8.out.rstep hs M8.out).cell 1, (Y8.out.rstep hs M8.out).cell 2, (TA.out.rstep hs NA.out).cell 0, (TA.out.rstep hs NA.out).cell 1, (TA.out.rstep hs NA.out).cell 2⟩)
 have RES : Hid (∀ wc Hx, RS W2 g tv1 wc tv1 Hx → Blk wc w.heap.size 34 zcells) := Lib.hid (fun wc Hx hs => YB.out.rstep hs MB.out)
 have U0 := Lib.hid (RS.of_ext S2.out.heap (Ext.refl W2).drew)
 have UALL := Lib.hid (fun wc Hx (hs : RS W2 g tv1 wc tv1 Hx) => (S1.out.trans (S2.out.trans hs)))
 obtain ⟨sw, hsw⟩ : ∃ sw, setW (mkH (tabH H) s) ⟨tk, tn, ts⟩ (tK key) (tK s) = sw := ⟨_, rfl⟩
 have HSW := Lib.hid hsw
 have hc := fun (Z : World) (hZ : RHeapIn Z g tv1 (mkH (tabH H) s)) => rset_step g tv1 (mkH (tabH H) s) ⟨tk, tn, ts⟩ (tK key) (tK s) Z hZ HL.out in64_0 in64_0
 rw [hsw, ← HM2.out] at hc
 have HSET := Lib.hid hc
 have NOS : Hid ((sNone : ByteArray) = sNone → ¬ sw = sNone → ∀ wc Hx (hs : RS W2 g tv1 wc tv1 Hx), Hx = setH (mkH (tabH H) s) ⟨tk, tn, ts⟩ (tK key) ⟨mk, mn, ms⟩ → ∀ u0 u1 u2, RvE w g tv r (.returned (.tuple #[Vl.zero.v, .string sw])) (((wc.setCell ⟨w.heap.size, 0, none⟩ u0).setCell ⟨w.heap.size, 1, none⟩ u1).setCell ⟨w.heap.size, 2, none⟩ u2)) := Lib.hid (fun hm hh wc Hx hs hx u0 u1 u2 => by
  have hr2 : r = (sw, Vl.zero, Hx) := by
   rw [← HR.out, hx, HM2.out]
   unfold underP
   simp only [HT.out]
   rw [if_pos HTW.out, ← tabH_cells H, if_pos HMW.out, hsw, if_neg hh]
  exact .mk hr2 ((RS.pre HE.out (UALL.out _ _ hs)).zeroed (RES.out _ _ hs) (Nat.le_refl _) _ _ _))
 have YES : Hid ((sNone : ByteArray) = sNone → sw = sNone → ∀ wc Hx (hs : RS W2 g tv1 wc tv1 Hx), Hx = setH (mkH (tabH H) s) ⟨tk, tn, ts⟩ (tK key) ⟨mk, mn, ms⟩ → ∀ u0 u1 u2, RvE w g tv r (.returned (.tuple #[(⟨tk, tn, ts⟩ : Vl).v, .string sNone])) (((wc.setCell ⟨w.heap.size, 0, none⟩ u0).setCell ⟨w.heap.size, 1, none⟩ u1).setCell ⟨w.heap.size, 2, none⟩ u2)) := Lib.hid (fun hm hh wc Hx hs hx u0 u1 u2 => by
  have hr2 : r = (sNone, ⟨tk, tn, ts⟩, Hx) := by
   rw [← HR.out, hx, HM2.out]
   unfold underP
   simp only [HT.out]
   rw [if_pos HTW.out, ← tabH_cells H, if_pos HMW.out, hsw, if_pos hh]
  exact .mk hr2 ((RS.pre HE.out (UALL.out _ _ hs)).zeroed (RES.out _ _ hs) (Nat.le_refl _) _ _ _))
 clear hc hsw hz hlen
 refine wp_region_held_drew (S := fun w' => w'.cell? ⟨b8, 0, none⟩ = some (.int .i64 tk) ∧ w'.cell? ⟨b8, 1, none⟩ = some (.int .i64 tn) ∧ w'.cell? ⟨b8, 2, none⟩ = some (.string ts) ∧ w'.cell? ⟨bA, 0, none⟩ = some (.int .i64 mk) ∧ w'.cell? ⟨bA, 1, none⟩ = some (.int .i64 mn) ∧ w'.cell? ⟨bA, 2, none⟩ = some (.string ms)) (by kernel_rfl) (KS.out _ _ U0.out) (fun hHeld => ?_)
 have U := Lib.hid U0.out
 clear U0
 refine wpAnyH_take (i := 0) (v := ?_) rfl (by kernel_rfl) (by kernel_rfl) (by kernel_rfl) (fun _ _ _ h => h) (Or.inl ⟨by rfl, (by intro w hSw; (try dsimp only at hSw); go_simp; first | done | with_reducible rfl)⟩) (by assumption) ?_
 (try simp only [Act.put, List.setIfInBounds_toArray, List.set_cons_zero, List.set_cons_succ])
 refine wpAnyH_take (i := 1) (v := ?_) rfl (by kernel_rfl) (by kernel_rfl) (by kernel_rfl) (fun _ _ _ h => h) (Or.inl ⟨by rfl, (by intro w hSw; (try dsimp only at hSw); go_simp; first | done | with_reducible rfl)⟩) (by assumption) ?_
 (try simp only [Act.put, List.setIfInBounds_toArray, List.set_cons_zero, List.set_cons_succ])
 refine wpAnyH_take (i := 2) (v := ?_) rfl (by kernel_rfl) (by kernel_rfl) (by kernel_rfl) (fun _ _ _ h => h) (Or.inl ⟨by rfl, (by intro w hSw; (try dsimp only at hSw); go_simp; first | done | with_reducible rfl)⟩) (by assumption) ?_
 (try simp only [Act.put, List.setIfInBounds_toArray, List.set_cons_zero, List.set_cons_succ])
 refine wpAnyH_take (i := 4) (v := ?_) rfl (by kernel_rfl) (by kernel_rfl) (by kernel_rfl) (fun _ _ _ h => h) (Or.inl ⟨by rfl, (by intro w hSw; (try dsimp only at hSw); go_simp; first | done | with_reducible rfl)⟩) (by assumption) ?_
 (try simp only [Act.put, List.setIfInBounds_toArray, List.set_cons_zero, List.set_cons_succ])
 refine wpAnyH_ready (rs := [3]) (by kernel_rfl) (by simp) ?_
 refine AllReadyH.cons rfl (fun K hK => ?_) ?_
 ·skip
  go_simp
  refine (rtxt16 key _).mono ?_
  rintro e w3 ⟨rfl, e3⟩
  replace U := Lib.hid (U.out.ext e3)
  clear e3
  clear hHeld
  refine hK.out _ _ (KS.out _ _ U.out) (fun hHeld => ?_)
  clear hK K
  (try simp only [Act.put, List.setIfInBounds_toArray, List.set_cons_zero, List.set_cons_succ])
  refine wpAnyH_ready (rs := [5]) (by kernel_rfl) (by simp) ?_
  refine AllReadyH.cons rfl (fun K hK => ?_) ?_
  ·skip
   go_simp
   refine (HSET.out _ U.out.heap).mono ?_
   rintro e w4 ⟨rfl, s4⟩
   replace U := Lib.hid (U.out.trans s4)
   clear s4
   clear hHeld
   refine hK.out _ _ (KS.out _ _ U.out) (fun hHeld => ?_)
   clear hK K
   (try simp only [Act.put, List.setIfInBounds_toArray, List.set_cons_zero, List.set_cons_succ])
   refine wpAnyH_take (i := 6) (v := ?_) rfl (by kernel_rfl) (by kernel_rfl) (by kernel_rfl) (fun _ _ _ h => h) (Or.inl ⟨by rfl, (by intro w hSw; (try dsimp only at hSw); go_simp; first | done | with_reducible rfl)⟩) (by assumption) ?_
   (try simp only [Act.put, List.setIfInBounds_toArray, List.set_cons_zero, List.set_cons_succ])
   refine wpAnyH_done (by kernel_rfl) ?_ _
   have Y1 := Lib.hid (RES.out _ _ U.out)
   have X1 := Lib.hid (KS.out _ _ U.out)
   obtain ⟨z0, z1, z2, y0, y1, y2⟩ := three Y1.out
   have hlt := Y1.out.lt
   obtain ⟨x0, x1, x2, _, _, _⟩ := X1.out
   rcases Decidable.em (sw = sNone) with hs2 | hs2
   ·have FIN := Lib.hid (YES.out rfl hs2 _ _ U.out rfl)
    obtain rfl := hs2
    go_wp2_with fail
    exact bodyPost_ret (v := .tuple #[(⟨tk, tn, ts⟩ : Vl).v, .string sNone]) (by simp [results, Tryz.results58, go_sem, sNone, *]) rfl (FIN.out _ _ _)
   ·have FIN := Lib.hid (NOS.out rfl hs2 _ _ U.out rfl)
    have hq2 := str_ne_empty hs2
    have hq3 := ne_list hs2
    go_wp2_with fail
    exact bodyPost_ret (v := .tuple #[Vl.zero.v, .string sw]) (by simp [results, Tryz.results58, go_sem, Vl.zero, sNone, *]) rfl (FIN.out _ _ _)
  ·skip
   exact AllReadyH.nil
 ·skip
  exact AllReadyH.nil
end Go.Proofs.YtlfihdcgbhdajaaGreatDoor
namespace Go.Proofs.YtlfihdcgbhdajaaGreatDoor
open Go.RowKit
set_option linter.unusedVariables false
set_option linter.unusedSimpArgs false

theorem mkV_no {c sp : Int} {s : ByteArray} (h : ¬ mkW c sp s = sNone) : mkV c sp s = Vl.zero := by
 unfold mkW at h
 unfold mkV
 split
 ·rfl
 ·rename_i h1
  rw [if_neg h1] at h
  split
  ·rename_i h2; rw [if_pos h2] at h; exact absurd rfl h
  ·rfl
theorem mkV_is (c sp : Int) (s : ByteArray) : mkV c sp s = (if mkW c sp s = sNone then tK s else Vl.zero) := by
 split
 ·rename_i h; exact mkV_yes h
 ·rename_i h; exact mkV_no h
set_option maxRecDepth 100000 in
set_option maxHeartbeats 2000000 in
theorem rval_3 (g : Nat) (tv : Value) (H : Hp) (w : World) (h : RHeapIn w g tv H) (n : Int) (s : ByteArray) (q : Option Addr) (m c : Nat) :
  Calls Tryz.prog 38 #[.pointer (some ⟨g, 0, none⟩), .agg #[.int .i64 3, .int .i64 n, .string s, .slice q m c]] w (RvE w g tv (sNone, iK n, H)) := by
 have HE := Lib.hid (((Ext.refl w).alloc (.cells #[.int .i64 3, .int .i64 n, .string s, .slice q m c] 25)).alloc (.cells #[.int .i64 0, .int .i64 0, .string ⟨#[]⟩] 34))
 have HB : Hid (Blk ((w.alloc (.cells #[.int .i64 3, .int .i64 n, .string s, .slice q m c] 25)).alloc (.cells #[.int .i64 0, .int .i64 0, .string ⟨#[]⟩] 34)) (w.heap.size + 1) 34 zcells) := Lib.hid (by
  have := Blk.new (w.alloc (.cells #[.int .i64 3, .int .i64 n, .string s, .slice q m c] 25)) 34 zcells
  rwa [size_alloc] at this)
 have HI := Lib.hid (h.ext HE.out)
 have NB : Hid (¬ RFoot g tv (w.heap.size + 1)) := Lib.hid (fun hx => by have := h.low hx; omega)
 go_enter Tryz.func38, Tryz.ntmps38
 go_wp2_with fail
 refine (rnum16 n _).mono ?_
 rintro e w1 ⟨rfl, e1⟩
 have YB := Lib.hid (HB.out.ext e1)
 have S1 := Lib.hid (RS.pre HE.out (RS.of_ext HI.out e1))
 obtain ⟨z0, z1, z2, y0, y1, y2⟩ := three YB.out
 have hlt := YB.out.lt
 clear e1 h
 go_wp2_with fail
 exact bodyPost_ret (v := .tuple #[(iK n).v, .string sNone]) (by simp [results, Tryz.results38, go_sem, iK, tK, bV, sNone, *]) rfl (RvE.mk rfl (S1.out.zeroed YB.out (Nat.le_succ _) _ _ _))
set_option maxRecDepth 100000 in
set_option maxHeartbeats 2000000 in
theorem rval_4 (g : Nat) (tv : Value) (H : Hp) (w : World) (h : RHeapIn w g tv H) (n : Int) (s : ByteArray) (q : Option Addr) (m c : Nat) (hz : s.size ≤ 9223372036854775807) :
  Calls Tryz.prog 38 #[.pointer (some ⟨g, 0, none⟩), .agg #[.int .i64 4, .int .i64 n, .string s, .slice q m c]] w (RvE w g tv (mkW H.cells H.spent s, mkV H.cells H.spent s, mkH H s)) := by
 have HE := Lib.hid (((Ext.refl w).alloc (.cells #[.int .i64 4, .int .i64 n, .string s, .slice q m c] 25)).alloc (.cells #[.int .i64 0, .int .i64 0, .string ⟨#[]⟩] 34))
 have HB : Hid (Blk ((w.alloc (.cells #[.int .i64 4, .int .i64 n, .string s, .slice q m c] 25)).alloc (.cells #[.int .i64 0, .int .i64 0, .string ⟨#[]⟩] 34)) (w.heap.size + 1) 34 zcells) := Lib.hid (by
  have := Blk.new (w.alloc (.cells #[.int .i64 4, .int .i64 n, .string s, .slice q m c] 25)) 34 zcells
  rwa [size_alloc] at this)
 have HI := Lib.hid (h.ext HE.out)
 have NB : Hid (¬ RFoot g tv (w.heap.size + 1)) := Lib.hid (fun hx => by have := h.low hx; omega)
 obtain ⟨r, hr⟩ : ∃ r, r = ((mkW H.cells H.spent s, mkV H.cells H.spent s, mkH H s) : Br3) := ⟨_, rfl⟩
 rw [← hr]
 have HR := Lib.hid hr
 clear hr
 go_enter Tryz.func38, Tryz.ntmps38
 go_wp2_with fail
 refine (rmake_step g tv H s _ HI.out hz).mono ?_
 rintro e w1 ⟨rfl, s1⟩
 have YB := Lib.hid (HB.out.rstep s1 NB.out)
 have S1 := Lib.hid (RS.pre HE.out s1)
 obtain ⟨z0, z1, z2, y0, y1, y2⟩ := three YB.out
 have hlt := YB.out.lt
 clear s1 h
 obtain ⟨mw, hmw⟩ : ∃ mw, mkW H.cells H.spent s = mw := ⟨_, rfl⟩
 obtain ⟨mv, hmv⟩ : ∃ mv, mkV H.cells H.spent s = mv := ⟨_, rfl⟩
 have HR2 : Hid (r = (mw, mv, mkH H s)) := Lib.hid (by rw [HR.out, hmw, hmv])
 rw [hmw, hmv]
 clear hmw hmv HR
 obtain ⟨mk, mn, ms⟩ := mv
 go_wp2_with fail
 exact bodyPost_ret (v := .tuple #[(⟨mk, mn, ms⟩ : Vl).v, .string mw]) (by simp [results, Tryz.results38, go_sem, iK, tK, bV, sNone, *]) rfl (RvE.mk HR2.out (S1.out.zeroed YB.out (Nat.le_succ _) _ _ _))
set_option maxRecDepth 100000 in
set_option maxHeartbeats 2000000 in
theorem rval_1 (g : Nat) (tv : Value) (H : Hp) (w : World) (h : RHeapIn w g tv H) (hlen : H.tabs.length ≤ 1000000000) (n : Int) (s : ByteArray) (q : Option Addr) (m c : Nat) (hz : s.size ≤ 9223372036854775807) :
  Calls Tryz.prog 38 #[.pointer (some ⟨g, 0, none⟩), .agg #[.int .i64 1, .int .i64 n, .string s, .slice q m c]] w (RvE w g tv (underP H sOk s)) := by
 have HE := Lib.hid (((Ext.refl w).alloc (.cells #[.int .i64 1, .int .i64 n, .string s, .slice q m c] 25)).alloc (.cells #[.int .i64 0, .int .i64 0, .string ⟨#[]⟩] 34))
 have HB : Hid (Blk ((w.alloc (.cells #[.int .i64 1, .int .i64 n, .string s, .slice q m c] 25)).alloc (.cells #[.int .i64 0, .int .i64 0, .string ⟨#[]⟩] 34)) (w.heap.size + 1) 34 zcells) := Lib.hid (by
  have := Blk.new (w.alloc (.cells #[.int .i64 1, .int .i64 n, .string s, .slice q m c] 25)) 34 zcells
  rwa [size_alloc] at this)
 have HI := Lib.hid (h.ext HE.out)
 have NB : Hid (¬ RFoot g tv (w.heap.size + 1)) := Lib.hid (fun hx => by have := h.low hx; omega)
 go_enter Tryz.func38, Tryz.ntmps38
 go_wp2_with fail
 refine (rund g tv H _ HI.out hlen sOk s hz).mono ?_
 rintro e w1 ⟨rfl, tv1, s1⟩
 have YB := Lib.hid (HB.out.rstep s1 NB.out)
 have S1 := Lib.hid (RS.pre HE.out s1)
 obtain ⟨z0, z1, z2, y0, y1, y2⟩ := three YB.out
 have hlt := YB.out.lt
 clear s1 h
 generalize underP H sOk s = r at *
 obtain ⟨mw, ⟨mk, mn, ms⟩, mH⟩ := r
 go_wp2_with fail
 exact bodyPost_ret (v := .tuple #[(⟨mk, mn, ms⟩ : Vl).v, .string mw]) (by simp [results, Tryz.results38, go_sem, iK, tK, bV, sNone, *]) rfl (RvE.mk rfl (S1.out.zeroed YB.out (Nat.le_succ _) _ _ _))
set_option maxRecDepth 100000 in
set_option maxHeartbeats 2000000 in
theorem rval_2 (g : Nat) (tv : Value) (H : Hp) (w : World) (h : RHeapIn w g tv H) (hlen : H.tabs.length ≤ 1000000000) (n : Int) (s : ByteArray) (q : Option Addr) (m c : Nat) (hz : s.size ≤ 9223372036854775807) :
  Calls Tryz.prog 38 #[.pointer (some ⟨g, 0, none⟩), .agg #[.int .i64 2, .int .i64 n, .string s, .slice q m c]] w (RvE w g tv (underP H sErr s)) := by
 have HE := Lib.hid (((Ext.refl w).alloc (.cells #[.int .i64 2, .int .i64 n, .string s, .slice q m c] 25)).alloc (.cells #[.int .i64 0, .int .i64 0, .string ⟨#[]⟩] 34))
 have HB : Hid (Blk ((w.alloc (.cells #[.int .i64 2, .int .i64 n, .string s, .slice q m c] 25)).alloc (.cells #[.int .i64 0, .int .i64 0, .string ⟨#[]⟩] 34)) (w.heap.size + 1) 34 zcells) := Lib.hid (by
  have := Blk.new (w.alloc (.cells #[.int .i64 2, .int .i64 n, .string s, .slice q m c] 25)) 34 zcells
  rwa [size_alloc] at this)
 have HI := Lib.hid (h.ext HE.out)
 have NB : Hid (¬ RFoot g tv (w.heap.size + 1)) := Lib.hid (fun hx => by have := h.low hx; omega)
 go_enter Tryz.func38, Tryz.ntmps38
 go_wp2_with fail
 refine (rund g tv H _ HI.out hlen sErr s hz).mono ?_
 rintro e w1 ⟨rfl, tv1, s1⟩
 have YB := Lib.hid (HB.out.rstep s1 NB.out)
 have S1 := Lib.hid (RS.pre HE.out s1)
 obtain ⟨z0, z1, z2, y0, y1, y2⟩ := three YB.out
 have hlt := YB.out.lt
 clear s1 h
 generalize underP H sErr s = r at *
 obtain ⟨mw, ⟨mk, mn, ms⟩, mH⟩ := r
 go_wp2_with fail
 exact bodyPost_ret (v := .tuple #[(⟨mk, mn, ms⟩ : Vl).v, .string mw]) (by simp [results, Tryz.results38, go_sem, iK, tK, bV, sNone, *]) rfl (RvE.mk rfl (S1.out.zeroed YB.out (Nat.le_succ _) _ _ _))
set_option maxRecDepth 100000 in
set_option maxHeartbeats 2000000 in
theorem rval_0 (g : Nat) (tv : Value) (H : Hp) (w : World) (h : RHeapIn w g tv H) (k : Int) (h1 : ¬ k = 1) (h2 : ¬ k = 2) (h3 : ¬ k = 3) (h4 : ¬ k = 4) (h5 : ¬ k = 5) (n : Int) (s : ByteArray) (q : Option Addr) (m c : Nat) :
  Calls Tryz.prog 38 #[.pointer (some ⟨g, 0, none⟩), .agg #[.int .i64 k, .int .i64 n, .string s, .slice q m c]] w (RvE w g tv (sNone, bV false, H)) := by
 have HE := Lib.hid (((Ext.refl w).alloc (.cells #[.int .i64 k, .int .i64 n, .string s, .slice q m c] 25)).alloc (.cells #[.int .i64 0, .int .i64 0, .string ⟨#[]⟩] 34))
 have HB : Hid (Blk ((w.alloc (.cells #[.int .i64 k, .int .i64 n, .string s, .slice q m c] 25)).alloc (.cells #[.int .i64 0, .int .i64 0, .string ⟨#[]⟩] 34)) (w.heap.size + 1) 34 zcells) := Lib.hid (by
  have := Blk.new (w.alloc (.cells #[.int .i64 k, .int .i64 n, .string s, .slice q m c] 25)) 34 zcells
  rwa [size_alloc] at this)
 have HI := Lib.hid (h.ext HE.out)
 have NB : Hid (¬ RFoot g tv (w.heap.size + 1)) := Lib.hid (fun hx => by have := h.low hx; omega)
 have g1 : (k == 1) = false := by rw [beq_eq_false_iff_ne]; exact h1
 have g2 : (k == 2) = false := by rw [beq_eq_false_iff_ne]; exact h2
 have g3 : (k == 3) = false := by rw [beq_eq_false_iff_ne]; exact h3
 have g4 : (k == 4) = false := by rw [beq_eq_false_iff_ne]; exact h4
 have g5 : (k == 5) = false := by rw [beq_eq_false_iff_ne]; exact h5
 obtain ⟨z0, z1, z2, y0, y1, y2⟩ := three (Blk.new w 25 #[.int .i64 0, .int .i64 0, .string ⟨#[]⟩])
 clear z0 z1 z2 y0 y1 y2
 go_enter Tryz.func38, Tryz.ntmps38
 go_wp2_with fail
 have S1 := Lib.hid (RS.of_ext h HE.out)
 exact bodyPost_ret (v := .tuple #[(bV false).v, .string sNone]) (by simp [results, Tryz.results38, go_sem, iK, tK, bV, sNone, *]) rfl (RvE.mk rfl (RS.of_ext h (((Ext.refl w).alloc _).alloc _)))
end Go.Proofs.YtlfihdcgbhdajaaGreatDoor
