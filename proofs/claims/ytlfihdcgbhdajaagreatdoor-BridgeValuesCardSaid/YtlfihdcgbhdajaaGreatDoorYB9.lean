/- What works asks, told by reckoning. The rows of the chapter: works. The rows of the chapter: works. -/
import Derived.Test.YtlfihdcgbhdajaaGreatDoorYBwQ
import Derived.Deep.RegionHeld3
namespace Go.Proofs.YtlfihdcgbhdajaaGreatDoor
set_option linter.unusedVariables false
def wkX : Rep := .mk 5 0 sNone [.mk 0 0 sNone [], .mk 3 7 sNone []]
def wkH1 : Hp := ⟨[[(iK 1, bV false), (iK 2, iK 7)]], 100, 3⟩
def wkV : Vl := ⟨4, 0, sNone⟩
def wkT : Vl := ⟨4, 1, sNone⟩
def wkH2 : Hp := ⟨[[(iK 1, bV false), (iK 2, iK 7)], []], 100, 4⟩
def wkH3 : Hp := ⟨[[(iK 1, bV false), (iK 2, iK 7)], [(iK 1, wkT)]], 100, 5⟩
theorem wk_value : valueR (newH 100) wkX = (sNone, wkV, wkH1) := by kernel_rfl
theorem wk_len : lenV wkH1 wkV = 2 ∧ lenW wkH1 wkV = sNone := ⟨by kernel_rfl, by kernel_rfl⟩
theorem wk_reply : breplyR wkH1 wkV = (sNone, wkX) := by kernel_rfl
theorem wk_true : breplyR wkH1 ⟨1, 1, ⟨#[]⟩⟩ = (sNone, .mk 3 1 sNone []) := by kernel_rfl
theorem wk_tab : tabV wkH1 = wkT ∧ tabH wkH1 = wkH2 := ⟨by kernel_rfl, by kernel_rfl⟩
theorem wk_set : setH wkH2 wkT (iK 1) wkT = wkH3 := by kernel_rfl
theorem wk_ring : breplyR wkH3 wkT = (sReply, .mk 0 0 sNone []) := by kernel_rfl
end Go.Proofs.YtlfihdcgbhdajaaGreatDoor
namespace Go.Proofs.YtlfihdcgbhdajaaGreatDoor
open Go.RowKit
set_option linter.unusedVariables false
set_option linter.unusedSimpArgs false

structure OH (w0 w : World) (g : Nat) (H : Hp) (K : List (Nat × Obj)) : Prop where
 ex : ∃ tv rs, HeapIn w g tv rs H ∧ (∀ x, Foot g tv rs x → w0.heap.size ≤ x) ∧ ∀ p ∈ K, ¬ Foot g tv rs p.1
 ext : Ext w0 w
 own : ∀ p ∈ K, w.heap[p.1]? = some p.2
section
variable {w0 w w' : World} {g : Nat} {H H' : Hp} {K K' : List (Nat × Obj)}
theorem obj_lt {w : World} {b : Nat} {o : Obj} (h : w.heap[b]? = some o) : b < w.heap.size := (Array.getElem?_eq_some_iff.1 h).1
theorem OH.ext' (h : OH w0 w g H K) (he : Ext w w') : OH w0 w' g H K := by
 obtain ⟨tv, rs, h1, h2, h3⟩ := h.ex
 exact ⟨⟨tv, rs, h1.ext he, h2, h3⟩, h.ext.trans he, fun p hp => (he.block p.1 (obj_lt (h.own p hp))).trans (h.own p hp)⟩
theorem OH.new (h : OH w0 w g H K) (o : Obj) : OH w0 (w.alloc o) g H ((w.heap.size, o) :: K) := by
 obtain ⟨tv, rs, h1, h2, h3⟩ := h.ex
 have he := (Ext.refl w).alloc o
 refine ⟨⟨tv, rs, h1.ext he, h2, ?_⟩, h.ext.trans he, ?_⟩
 ·intro p hp
  rcases List.mem_cons.1 hp with rfl | hp
  ·exact fun hf => Nat.lt_irrefl _ (h1.low hf)
  ·exact h3 p hp
 ·intro p hp
  rcases List.mem_cons.1 hp with rfl | hp
  ·exact heap_alloc_new w o
  ·exact (he.block p.1 (obj_lt (h.own p hp))).trans (h.own p hp)
theorem OH.did (h : OH w0 w g H K) {tv : Value} {rs : List (Nat × Nat)} (h1 : HeapIn w g tv rs H) (h2 : ∀ x, Foot g tv rs x → w0.heap.size ≤ x) (h3 : ∀ p ∈ K, ¬ Foot g tv rs p.1) (hs : HStep w g tv rs w' H') : OH w0 w' g H' K := by
 obtain ⟨tv', rs', hs⟩ := hs
 refine ⟨⟨tv', rs', hs.heap, fun x hx => ?_, fun p hp => hs.notin (obj_lt (h.own p hp)) (h3 p hp)⟩, hs.touch.to_ext h.ext h2, fun p hp => (hs.touch.block _ (obj_lt (h.own p hp)) (h3 p hp)).trans (h.own p hp)⟩
 rcases hs.foot x hx with hx | hx
 ·exact h2 x hx
 ·exact Nat.le_trans h.ext.le hx
theorem OH.new_heap (w : World) (c : Int) (hc : c ≤ 9223372036854775807) : OH w (w.alloc (.cells #[.slice none 0 0, .int .i64 (max c 0), .int .i64 0] 58)) w.heap.size (newH c) [] := by
 refine ⟨⟨.slice none 0 0, [], ⟨Blk.new _ _ _, World.ownsRow_nil _ _ _ _, rfl, fun i r T hr => by simp at hr, List.nodup_nil, newH_ok hc⟩, ?_, fun p hp => (List.not_mem_nil hp).elim⟩, (Ext.refl w).alloc _, fun p hp => (List.not_mem_nil hp).elim⟩
 rintro x (rfl | hx | hx)
 ·exact Nat.le_refl _
 ·simp [Value.ownBlock] at hx
 ·simp [mapsOf] at hx
theorem OH.blk (h : OH w0 w g H K) {b : Nat} {t : TypeId} {cs : Array Value} (hm : (b, Obj.cells cs t (0, 0)) ∈ K) : Blk w b t cs := h.own _ hm
theorem OH.sub (h : OH w0 w g H K) (hs : ∀ p ∈ K', p ∈ K) : OH w0 w g H K' := by
 obtain ⟨tv, rs, h1, h2, h3⟩ := h.ex
 exact ⟨⟨tv, rs, h1, h2, fun p hp => h3 p (hs p hp)⟩, h.ext, fun p hp => h.own p (hs p hp)⟩
end
theorem oh_value {w0 w : World} {g : Nat} {H : Hp} {K : List (Nat × Obj)} (h : OH w0 w g H K) (hlen : H.tabs.length ≤ 900000000) (hpw : Pow w0) (x : Rep) (q : Option Addr) (c D : Nat) (hv : ListAt (fun b => b < w0.heap.size ∨ ∃ o, (b, o) ∈ K) w D (.slice q x.l.length c) x.l) (h6 : i64R x) :
  Calls Tryz.prog 8 #[.pointer (some ⟨g, 0, none⟩), .agg #[.int .i64 x.k, .int .i64 x.n, .string x.s, .slice q x.l.length c]] w fun e w' =>
   e = .returned (.tuple #[(valueR H x).2.1.v, .string (valueR H x).1]) ∧ OH w0 w' g (valueR H x).2.2 K := by
 obtain ⟨tv, rs, h1, h2, h3⟩ := h.ex
 have hv' : ListAt (fun b => b < w.heap.size ∧ ¬ Foot g tv rs b) w D (.slice q x.l.length c) x.l := hv.keep (fun _ _ _ _ hc => hc) (fun b hlt hb => ⟨hlt, by
  rcases hb with hb | ⟨o, ho⟩
  ·intro hf
   have := h2 b hf
   omega
  ·exact h3 _ ho⟩)
 refine (value_any w g tv rs H h1 hlen (hpw.ext h.ext) x q c D hv' h6).mono ?_
 rintro e w' ⟨rfl, hs⟩
 exact ⟨rfl, h.did h1 h2 h3 hs⟩
theorem oh_reply {w0 w : World} {g : Nat} {H : Hp} {K : List (Nat × Obj)} (h : OH w0 w g H K) (hlen : H.tabs.length ≤ 900000000) (hpw : Pow w0) (v : Vl) (hv : in64 v.n) :
  Calls Tryz.prog 17 #[.pointer (some ⟨g, 0, none⟩), v.v] w fun e w' => ∃ rv, e = .returned (.tuple #[rv, .string (breplyR H v).1]) ∧ RepV (fun b => w.heap.size ≤ b) w' 100 rv (breplyR H v).2 ∧ Ext w w' := by
 obtain ⟨tv, rs, h1, h2, h3⟩ := h.ex
 exact reply_any w g tv rs H h1 (by omega) (hpw.ext h.ext) v hv
theorem oh_len {w0 w : World} {g : Nat} {H : Hp} {K : List (Nat × Obj)} (h : OH w0 w g H K) (hlen : H.tabs.length ≤ 900000000) (v : Vl) :
  Calls Tryz.prog 16 #[.pointer (some ⟨g, 0, none⟩), v.v] w fun e w' => e = .returned (.tuple #[.int .i64 (lenV H v), .string (lenW H v)]) ∧ Ext w w' := by
 obtain ⟨tv, rs, h1, h2, h3⟩ := h.ex
 exact len_any g tv rs H v w h1 (by omega)
theorem oh_table {w0 w : World} {g : Nat} {H : Hp} {K : List (Nat × Obj)} (h : OH w0 w g H K) (hlen : H.tabs.length ≤ 900000000) :
  Calls Tryz.prog 19 #[.pointer (some ⟨g, 0, none⟩)] w fun e w' => e = .returned (.tuple #[(tabV H).v, .string (tabW H)]) ∧ OH w0 w' g (tabH H) K := by
 obtain ⟨tv, rs, h1, h2, h3⟩ := h.ex
 refine (table_step g tv rs H w h1 (by omega)).mono ?_
 rintro e w' ⟨rfl, hs⟩
 exact ⟨rfl, h.did h1 h2 h3 hs⟩
theorem oh_set {w0 w : World} {g : Nat} {H : Hp} {K : List (Nat × Obj)} (h : OH w0 w g H K) (hlen : H.tabs.length ≤ 900000000) (t k v : Vl) (hk : in64 k.n) (hv : in64 v.n) :
  Calls Tryz.prog 20 #[.pointer (some ⟨g, 0, none⟩), t.v, k.v, v.v] w fun e w' => e = .returned (.string (setW H t k v)) ∧ OH w0 w' g (setH H t k v) K := by
 obtain ⟨tv, rs, h1, h2, h3⟩ := h.ex
 refine (set_any g tv rs H t k v w h1 (by omega) hk hv).mono ?_
 rintro e w' ⟨rfl, hh, ht⟩
 exact ⟨rfl, h.did h1 h2 h3 ⟨tv, rs, HS.of_touch hh ht⟩⟩
end Go.Proofs.YtlfihdcgbhdajaaGreatDoor
namespace Go.Proofs.YtlfihdcgbhdajaaGreatDoor
open Go.RowKit
set_option linter.unusedVariables false
set_option linter.unusedSimpArgs false

theorem OH.add {w0 w w' : World} {g : Nat} {H : Hp} {K : List (Nat × Obj)} (h : OH w0 w g H K) (he : Ext w w') {b : Nat} {o : Obj} (hb : w.heap.size ≤ b) (ho : w'.heap[b]? = some o) : OH w0 w' g H ((b, o) :: K) := by
 obtain ⟨tv, rs, h1, h2, h3⟩ := h.ex
 have h' := h.ext' he
 refine ⟨⟨tv, rs, h1.ext he, h2, ?_⟩, h'.ext, ?_⟩
 ·intro p hp
  rcases List.mem_cons.1 hp with rfl | hp
  ·intro hf
   have := h1.low hf
   simp only at this
   omega
  ·exact h3 p hp
 ·intro p hp
  rcases List.mem_cons.1 hp with rfl | hp
  ·exact ho
  ·exact h'.own p hp
theorem wk_i64 : i64R wkX := ⟨⟨by decide, by decide⟩, ⟨⟨by decide, by decide⟩, trivial⟩, ⟨⟨by decide, by decide⟩, trivial⟩, trivial⟩
theorem wk_list (W : World) (ok : Nat → Prop) (hok : ok W.heap.size) : ListAt ok (W.alloc (.cells #[.int .i64 0, .int .i64 0, .string ⟨#[]⟩, .slice none 0 0, .int .i64 3, .int .i64 7, .string ⟨#[]⟩, .slice none 0 0] 25)) 2 (.slice (some ⟨W.heap.size, 0, none⟩) 2 2) wkX.l := by
 have hb := Blk.new W 25 #[.int .i64 0, .int .i64 0, .string ⟨#[]⟩, .slice none 0 0, .int .i64 3, .int .i64 7, .string ⟨#[]⟩, .slice none 0 0]
 refine ⟨_, 2, rfl, fun _ => ⟨W.heap.size, 0, rfl, hok, fun i hi => ?_⟩⟩
 have h2 : i < 2 := hi
 rcases (by omega : i = 0 ∨ i = 1) with rfl | rfl
 ·exact ⟨hb.cell 0, hb.cell 1, hb.cell 2, _, hb.cell 3, nil_list _ _ _⟩
 ·exact ⟨hb.cell 4, hb.cell 5, hb.cell 6, _, hb.cell 7, nil_list _ _ _⟩
theorem wk_parts {ok : Nat → Prop} {w : World} {rv : Value} (h : RepV ok w 100 rv wkX) : ∃ b o c ob, rv = .agg #[.int .i64 5, .int .i64 0, .string ⟨#[]⟩, .slice (some ⟨b, o, none⟩) 2 c] ∧ ok b ∧ w.heap[b]? = some ob ∧ w.cell? ⟨b, o, none⟩ = some (.int .i64 0) ∧ w.cell? ⟨b, o + 4 + 1, none⟩ = some (.int .i64 7) := by
 obtain ⟨lv, e, hl⟩ := h
 obtain ⟨q, c, e2, hq⟩ := hl
 obtain ⟨b, o, e3, hok, hx⟩ := hq (by decide)
 have h0 := (hx 0 (by decide)).1
 have h1 := (hx 1 (by decide)).2.1
 have hlt := cell_lt h0
 simp only at hlt
 exact ⟨b, o, c, _, by rw [e, e2, e3]; rfl, hok, Array.getElem?_eq_getElem hlt, by simp only [Nat.zero_mul, Nat.add_zero] at h0; exact h0, h1⟩
theorem wk_parts2 {ok : Nat → Prop} {w : World} {rv : Value} (h : RepV ok w 100 rv (.mk 3 1 sNone [])) : ∃ q c, rv = .agg #[.int .i64 3, .int .i64 1, .string ⟨#[]⟩, .slice q 0 c] := by
 obtain ⟨lv, e, hl⟩ := h
 obtain ⟨q, c, e2⟩ := hl.slice
 exact ⟨q, c, by rw [e, e2]; rfl⟩
theorem wk_parts3 {ok : Nat → Prop} {w : World} {rv : Value} (h : RepV ok w 100 rv (.mk 0 0 sNone [])) : ∃ q c, rv = .agg #[.int .i64 0, .int .i64 0, .string ⟨#[]⟩, .slice q 0 c] := by
 obtain ⟨lv, e, hl⟩ := h
 obtain ⟨q, c, e2⟩ := hl.slice
 exact ⟨q, c, by rw [e, e2]; rfl⟩
set_option maxRecDepth 100000 in
set_option maxHeartbeats 4000000 in
theorem works_any (w : World) (hpw : Pow w) : Calls Tryz.prog 5 #[] w fun e w' => e = .returned (.bool true) ∧ Ext w w' := by
 have HP := Lib.hid hpw
 clear hpw
 go_enter Tryz.func5, Tryz.ntmps5
 go_wp2_with fail
 refine (new_any 100 w (by decide) (by decide)).mono ?_
 rintro e w1 ⟨rfl, hw1⟩
 have N1 : Hid (OH w w1 w.heap.size (newH 100) []) := Lib.hid (by rw [← hw1]; exact OH.new_heap w 100 (by decide))
 clear hw1
 go_wp2_with fail
 have N2 := Lib.hid (N1.out.new (.cells #[.int .i64 0, .int .i64 0, .string ⟨#[]⟩, .slice none 0 0, .int .i64 3, .int .i64 7, .string ⟨#[]⟩, .slice none 0 0] 25))
 have hV := oh_value N2.out (by decide) HP.out wkX (some ⟨w1.heap.size, 0, none⟩) 2 2 (wk_list w1 _ (.inr ⟨_, List.mem_cons_self ..⟩)) wk_i64
 rw [wk_value] at hV
 refine (show Calls Tryz.prog 8 #[.pointer (some ⟨w.heap.size, 0, none⟩), .agg #[.int .i64 5, .int .i64 0, .string ⟨#[]⟩, .slice (some ⟨w1.heap.size, 0, none⟩) 2 2]] (w1.alloc (.cells #[.int .i64 0, .int .i64 0, .string ⟨#[]⟩, .slice none 0 0, .int .i64 3, .int .i64 7, .string ⟨#[]⟩, .slice none 0 0] 25)) (fun e w' => e = .returned (.tuple #[vv 4 0 ⟨#[]⟩, .string ⟨#[]⟩]) ∧ OH w w' w.heap.size wkH1 [(w1.heap.size, (.cells #[.int .i64 0, .int .i64 0, .string ⟨#[]⟩, .slice none 0 0, .int .i64 3, .int .i64 7, .string ⟨#[]⟩, .slice none 0 0] 25))]) from hV).mono ?_
 rintro e w2 ⟨rfl, n2⟩
 have N3 : Hid (OH w (w2.alloc (.cells #[.int .i64 4, .int .i64 0, .string ⟨#[]⟩] 34)) w.heap.size wkH1 [(w2.heap.size, (.cells #[.int .i64 4, .int .i64 0, .string ⟨#[]⟩] 34))]) := Lib.hid ((n2.new _).sub (fun p hp => by
  rcases List.mem_cons.1 hp with rfl | hp
  ·exact List.mem_cons_self ..
  ·exact (List.not_mem_nil hp).elim))
 clear n2 hV N2 N1
 go_wp2_with fail
 generalize w2.alloc (.cells #[.int .i64 4, .int .i64 0, .string ⟨#[]⟩] 34) = wa at *
 obtain ⟨b2, hb2⟩ : ∃ b2, w2.heap.size = b2 := ⟨_, rfl⟩
 rw [hb2] at N3 ⊢
 clear hb2
 have hL := oh_len N3.out (by decide) wkV
 rw [wk_len.1, wk_len.2] at hL
 refine (show Calls Tryz.prog 16 #[.pointer (some ⟨w.heap.size, 0, none⟩), vv 4 0 ⟨#[]⟩] wa (fun e w' => e = .returned (.tuple #[.int .i64 2, .string ⟨#[]⟩]) ∧ Ext wa w') from hL).mono ?_
 rintro e w3 ⟨rfl, e3⟩
 have N4 := Lib.hid (N3.out.ext' e3)
 clear e3 hL N3
 obtain ⟨x0, x1, x2, _⟩ := three (N4.out.blk (List.mem_cons_self ..))
 go_wp2_with fail
 clear x0 x1 x2
 have hR := oh_reply N4.out (by decide) HP.out wkV in64_0
 rw [wk_reply] at hR
 refine (show Calls Tryz.prog 17 #[.pointer (some ⟨w.heap.size, 0, none⟩), vv 4 0 ⟨#[]⟩] w3 (fun e w' => ∃ rv, e = .returned (.tuple #[rv, .string ⟨#[]⟩]) ∧ RepV (fun b => w3.heap.size ≤ b) w' 100 rv wkX ∧ Ext w3 w') from hR).mono ?_
 rintro e w4 ⟨rv, rfl, hrv, e4⟩
 obtain ⟨lb, lo, lc, lob, rfl, hlb, hlo, k0, k7⟩ := wk_parts hrv
 have N5 := Lib.hid (N4.out.add e4 hlb hlo)
 have HK0 : Hid (∀ W : World, W.heap[lb]? = some lob → W.cell? ⟨lb, lo, none⟩ = some (.int .i64 0) ∧ W.cell? ⟨lb, lo + 4 + 1, none⟩ = some (.int .i64 7)) := Lib.hid (fun W hW => ⟨(World.cell?_of_block (hW.trans hlo.symm)).trans k0, (World.cell?_of_block (hW.trans hlo.symm)).trans k7⟩)
 have N6 := Lib.hid (N5.out.new (.cells #[.int .i64 5, .int .i64 0, .string ⟨#[]⟩, .slice (some ⟨lb, lo, none⟩) 2 lc] 25))
 clear hR hrv e4 hlb hlo k0 k7 N4 N5
 go_wp2_with fail
 generalize w4.alloc (.cells #[.int .i64 5, .int .i64 0, .string ⟨#[]⟩, .slice (some ⟨lb, lo, none⟩) 2 lc] 25) = wb at *
 obtain ⟨b6, hb6⟩ : ∃ b6, w4.heap.size = b6 := ⟨_, rfl⟩
 rw [hb6] at N6 ⊢
 clear hb6
 refine (show Calls Tryz.prog 18 #[.bool true] wb (fun e w' => e = .returned (vv 1 1 ⟨#[]⟩) ∧ Ext wb w') from bool_any true wb).mono ?_
 rintro e w5 ⟨rfl, e5⟩
 have N7 := Lib.hid (N6.out.ext' e5)
 clear e5 N6
 go_wp2_with fail
 have hR := oh_reply N7.out (by decide) HP.out ⟨1, 1, ⟨#[]⟩⟩ ⟨by show (-9223372036854775808 : Int) ≤ 1; decide, by show (1 : Int) ≤ 9223372036854775807; decide⟩
 rw [wk_true] at hR
 refine (show Calls Tryz.prog 17 #[.pointer (some ⟨w.heap.size, 0, none⟩), vv 1 1 ⟨#[]⟩] w5 (fun e w' => ∃ rv, e = .returned (.tuple #[rv, .string ⟨#[]⟩]) ∧ RepV (fun b => w5.heap.size ≤ b) w' 100 rv (.mk 3 1 sNone []) ∧ Ext w5 w') from hR).mono ?_
 rintro e w6 ⟨rv, rfl, hrv, e6⟩
 obtain ⟨q8, c8, rfl⟩ := wk_parts2 hrv
 have N8 := Lib.hid ((N7.out.ext' e6).new (.cells #[.int .i64 3, .int .i64 1, .string ⟨#[]⟩, .slice q8 0 c8] 25))
 clear hR hrv e6 N7
 go_wp2_with fail
 generalize w6.alloc (.cells #[.int .i64 3, .int .i64 1, .string ⟨#[]⟩, .slice q8 0 c8] 25) = wd at *
 obtain ⟨b8, hb8⟩ : ∃ b8, w6.heap.size = b8 := ⟨_, rfl⟩
 rw [hb8] at N8 ⊢
 clear hb8
 have hT := oh_table N8.out (by decide)
 rw [wk_tab.1, wk_tab.2, show tabW wkH1 = sNone by kernel_rfl] at hT
 refine (show Calls Tryz.prog 19 #[.pointer (some ⟨w.heap.size, 0, none⟩)] wd (fun e w' => e = .returned (.tuple #[vv 4 1 ⟨#[]⟩, .string ⟨#[]⟩]) ∧ _) from hT).mono ?_
 rintro e w7 ⟨rfl, n7⟩
 have N9 := Lib.hid (n7.new (.cells #[.int .i64 4, .int .i64 1, .string ⟨#[]⟩] 34))
 clear hT n7 N8
 go_wp2_with fail
 generalize w7.alloc (.cells #[.int .i64 4, .int .i64 1, .string ⟨#[]⟩] 34) = we at *
 obtain ⟨b10, hb10⟩ : ∃ b10, w7.heap.size = b10 := ⟨_, rfl⟩
 rw [hb10] at N9 ⊢
 clear hb10
 have SF : Hid (∀ (K : List (Nat × Obj)) (W : World) (H : Hp), OH w W w.heap.size H ((b10, .cells #[.int .i64 4, .int .i64 1, .string ⟨#[]⟩] 34) :: K) → (fun w' => w'.cell? ⟨b10, 0, none⟩ = some (.int .i64 4) ∧ w'.cell? ⟨b10, 1, none⟩ = some (.int .i64 1) ∧ w'.cell? ⟨b10, 2, none⟩ = some (.string ⟨#[]⟩)) W) := Lib.hid (fun K W H h => ⟨(h.blk (List.mem_cons_self ..)).cell 0, (h.blk (List.mem_cons_self ..)).cell 1, (h.blk (List.mem_cons_self ..)).cell 2⟩)
 refine wp_region_held_drew (S := fun w' => w'.cell? ⟨b10, 0, none⟩ = some (.int .i64 4) ∧ w'.cell? ⟨b10, 1, none⟩ = some (.int .i64 1) ∧ w'.cell? ⟨b10, 2, none⟩ = some (.string ⟨#[]⟩)) (by kernel_rfl) (SF.out _ _ _ (N9.out.ext' (Ext.refl _).drew)) (fun hHeld => ?_)
 replace N9 := Lib.hid (N9.out.ext' (Ext.refl _).drew)
 refine wpAnyH_take (i := 0) (v := ?_) rfl (by kernel_rfl) (by kernel_rfl) (by kernel_rfl) (fun _ _ _ h => h) (Or.inl ⟨by rfl, (by intro w hSw; (try dsimp only at hSw); go_simp; first | done | with_reducible rfl)⟩) (by assumption) ?_
 (try simp only [Act.put, List.setIfInBounds_toArray, List.set_cons_zero, List.set_cons_succ])
 refine wpAnyH_take (i := 1) (v := ?_) rfl (by kernel_rfl) (by kernel_rfl) (by kernel_rfl) (fun _ _ _ h => h) (Or.inl ⟨by rfl, (by intro w hSw; (try dsimp only at hSw); go_simp; first | done | with_reducible rfl)⟩) (by assumption) ?_
 (try simp only [Act.put, List.setIfInBounds_toArray, List.set_cons_zero, List.set_cons_succ])
 refine wpAnyH_take (i := 3) (v := ?_) rfl (by kernel_rfl) (by kernel_rfl) (by kernel_rfl) (fun _ _ _ h => h) (Or.inl ⟨by rfl, (by intro w hSw; (try dsimp only at hSw); go_simp; first | done | with_reducible rfl)⟩) (by assumption) ?_
 (try simp only [Act.put, List.setIfInBounds_toArray, List.set_cons_zero, List.set_cons_succ])
 refine wpAnyH_ready (rs := [2]) (by kernel_rfl) (by simp) ?_
 refine AllReadyH.cons rfl (fun K hK => ?_) ?_
 ·skip
  go_simp
  refine (int_any 1 _).mono ?_
  rintro e wp ⟨rfl, e3⟩
  replace N9 := Lib.hid (N9.out.ext' e3)
  clear e3
  clear hHeld
  refine hK.out _ _ (SF.out _ _ _ N9.out) (fun hHeld => ?_)
  clear hK K
  (try simp only [Act.put, List.setIfInBounds_toArray, List.set_cons_zero, List.set_cons_succ])
  refine wpAnyH_ready (rs := [4]) (by kernel_rfl) (by simp) ?_
  refine AllReadyH.cons rfl (fun K hK => ?_) ?_
  ·skip
   go_simp
   have hS := oh_set N9.out (by decide) wkT (iK 1) wkT ⟨by show (-9223372036854775808 : Int) ≤ 1; decide, by show (1 : Int) ≤ 9223372036854775807; decide⟩ ⟨by show (-9223372036854775808 : Int) ≤ 1; decide, by show (1 : Int) ≤ 9223372036854775807; decide⟩
   rw [wk_set] at hS
   refine hS.mono ?_
   rintro e w8 ⟨rfl, n8⟩
   clear N9 hS
   have N9 := Lib.hid n8
   clear n8
   clear hHeld
   refine hK.out _ _ (SF.out _ _ _ N9.out) (fun hHeld => ?_)
   clear hK K
   (try simp only [Act.put, List.setIfInBounds_toArray, List.set_cons_zero, List.set_cons_succ])
   refine wpAnyH_done (by kernel_rfl) ?_ _
   obtain ⟨x0, x1, x2, _⟩ := three (N9.out.blk (List.mem_cons_self ..))
   go_wp2_with fail
   have hR := oh_reply N9.out (by decide) HP.out wkT ⟨by show (-9223372036854775808 : Int) ≤ 1; decide, by show (1 : Int) ≤ 9223372036854775807; decide⟩
   rw [wk_ring] at hR
   refine (show Calls Tryz.prog 17 #[.pointer (some ⟨w.heap.size, 0, none⟩), vv 4 1 ⟨#[]⟩] w8 (fun e w' => ∃ rv, e = .returned (.tuple #[rv, .string ⟨#[114, 101, 112, 108, 121]⟩]) ∧ RepV (fun b => w8.heap.size ≤ b) w' 100 rv (.mk 0 0 sNone []) ∧ Ext w8 w') from hR).mono ?_
   rintro e w9 ⟨rv, rfl, hrv, e9⟩
   obtain ⟨q9, c9, rfl⟩ := wk_parts3 hrv
   have NA := Lib.hid ((N9.out.ext' e9).new (.cells #[.int .i64 0, .int .i64 0, .string ⟨#[]⟩, .slice q9 0 c9] 25))
   clear hR hrv e9 N9 x0 x1 x2
   have y3 := (NA.out.blk (b := b6) (t := 25) (cs := #[.int .i64 5, .int .i64 0, .string ⟨#[]⟩, .slice (some ⟨lb, lo, none⟩) 2 lc]) (by simp)).cell 3
   have y8 := (NA.out.blk (b := b8) (t := 25) (cs := #[.int .i64 3, .int .i64 1, .string ⟨#[]⟩, .slice q8 0 c8]) (by simp)).cell 1
   obtain ⟨k0, k7⟩ := HK0.out _ (NA.out.own (lb, lob) (by simp))
   simp only [List.getElem?_toArray, List.getElem?_cons_zero, List.getElem?_cons_succ] at y3 y8
   have hl : lb < (w9.alloc (.cells #[.int .i64 0, .int .i64 0, .string ⟨#[]⟩, .slice q9 0 c9] 25)).heap.size := obj_lt (NA.out.own (lb, lob) (by simp))
   go_upto_region 9 with fail
   generalize w9.alloc (.cells #[.int .i64 0, .int .i64 0, .string ⟨#[]⟩, .slice q9 0 c9] 25) = wf at *
   have NE := Lib.hid NA.out.ext
   clear NA SF HK0
   go_wp2_with fail
   go_ret
   exact ⟨rfl, NE.out⟩
  ·skip
   exact AllReadyH.nil
 ·skip
  exact AllReadyH.nil
end Go.Proofs.YtlfihdcgbhdajaaGreatDoor
