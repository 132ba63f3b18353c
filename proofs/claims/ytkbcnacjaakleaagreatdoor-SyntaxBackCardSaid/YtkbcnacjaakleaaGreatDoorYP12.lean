/- Words: a text's words, in the program. Words: two words that are known; which texts are names, in the document. tabor.tree: operators; ContainsFunc over texts. -/
import Derived.Test.YtkbcnacjaakleaaGreatDoorYP11
import Derived.Test.YtkbcnacjaakleaaGreatDoorYP00
import Derived.Deep.AppendLies
import Derived.Test.YtkbcnacjaakleaaGreatDoorYP06
import Derived.Test.YtkbcnacjaakleaaGreatDoorYP09
set_option maxRecDepth 100000
set_option maxHeartbeats 32000000
set_option linter.unusedVariables false
set_option linter.unusedSimpArgs false
namespace Go.Proofs.YtkbcnacjaakleaaGreatDoor
open Go.RowKit Go.Shelf
attribute [local go_sem] Oper.semAt_some

/-! ### What the items say of the words -/
theorem items_len : ∀ (k : Nat) (l : List UInt8) (a : Nat), l.length ≤ k → (itemsP a l).length ≤ l.length
 | 0, l, a, h => by
  obtain rfl : l = [] := List.eq_nil_of_length_eq_zero (by omega)
  rw [items_nil]; simp
 | k + 1, l, a, h => by
  by_cases hl : l = []
  ·subst hl; rw [items_nil]; simp
  have hp : 0 < l.length := List.length_pos_iff.2 hl
  cases hw : wordP l with
  | none => rw [items_none hl hw]; simp; omega
  | some x =>
   obtain ⟨x, n⟩ := x
   have hm := word_may hw
   rw [items_some hl hw hm.2.2.1, List.length_cons]
   have ih := items_len k (l.drop (n + blankS false (l.drop n))) (a + n + blankS false (l.drop n)) (by rw [List.length_drop]; omega)
   rw [List.length_drop] at ih
   omega
theorem lex_bad : ∀ (k : Nat) (l : List UInt8) (a : Nat) (pre tail : List (Wd × Nat)) (x : Wd × Nat), l.length ≤ k → itemsP a l = pre ++ x :: tail → x.2 = 0 → ∃ p : Nat, x.1.a = (p : Int) ∧ lexP a l = .error p
 | 0, l, a, pre, tail, x, h, hi, h0 => by
  obtain rfl : l = [] := List.eq_nil_of_length_eq_zero (by omega)
  rw [items_nil] at hi
  have := congrArg List.length hi
  simp at this
 | k + 1, l, a, pre, tail, x, h, hi, h0 => by
  by_cases hl : l = []
  ·subst hl
   rw [items_nil] at hi
   have := congrArg List.length hi
   simp at this
  have hp : 0 < l.length := List.length_pos_iff.2 hl
  cases hw : wordP l with
  | none =>
   rw [items_none hl hw] at hi
   cases pre with
   | nil =>
    rw [List.nil_append] at hi
    injection hi with e1 e2
    subst e1
    exact ⟨a, rfl, lexP_none hl hw⟩
   | cons y pre =>
    rw [List.cons_append] at hi
    injection hi with e1 e2
    have := congrArg List.length e2
    simp at this
  | some y =>
   obtain ⟨y, n⟩ := y
   have hm := word_may hw
   rw [items_some hl hw hm.2.2.1] at hi
   rw [lexP_word hl hw hm.2.2.1]
   cases pre with
   | nil =>
    rw [List.nil_append] at hi
    injection hi with e1 e2
    subst e1
    exact absurd h0 (by show ¬ n = 0; have := hm.2.2.1; omega)
   | cons z pre =>
    rw [List.cons_append] at hi
    injection hi with e1 e2
    obtain ⟨p, hp1, hp2⟩ := lex_bad k _ _ pre tail x (by rw [List.length_drop]; omega) e2 h0
    exact ⟨p, hp1, by rw [hp2]; rfl⟩
theorem lex_fine : ∀ (k : Nat) (l : List UInt8) (a : Nat), l.length ≤ k → (∀ x ∈ itemsP a l, 1 ≤ x.2) → lexP a l = .ok ((itemsP a l).map (·.1))
 | 0, l, a, h, _ => by
  obtain rfl : l = [] := List.eq_nil_of_length_eq_zero (by omega)
  rw [items_nil, lexP_nil]; rfl
 | k + 1, l, a, h, hx => by
  by_cases hl : l = []
  ·subst hl; rw [items_nil, lexP_nil]; rfl
  have hp : 0 < l.length := List.length_pos_iff.2 hl
  cases hw : wordP l with
  | none =>
   rw [items_none hl hw] at hx
   have := hx _ (List.mem_singleton.2 rfl)
   simp at this
  | some y =>
   obtain ⟨y, n⟩ := y
   have hm := word_may hw
   rw [items_some hl hw hm.2.2.1] at hx ⊢
   rw [lexP_word hl hw hm.2.2.1, lex_fine k _ _ (by rw [List.length_drop]; omega) (fun x h => hx x (List.mem_cons_of_mem _ h))]
   rfl
/-! ### Words in memory -/
def wdC (x : Wd) : List Value := [.int .i64 x.k, .string ⟨x.t.toArray⟩, .int .i64 x.n, .int .i64 x.a]
def OwnW (w : World) (B : Nat) (v : Value) (ws : List Wd) : Prop := w.ownsRow B 138 4 v ws.length (ws.flatMap wdC)
theorem OwnW.nil (w : World) (B : Nat) : OwnW w B (.slice none 0 0) [] := World.ownsRow_nil _ _ _ _
theorem OwnW.ext {w w' : World} {B : Nat} {v : Value} {ws : List Wd} (h : OwnW w B v ws) (he : Ext w w') : OwnW w' B v ws := own_ext h he
theorem OwnW.slice {w : World} {B : Nat} {v : Value} {ws : List Wd} (h : OwnW w B v ws) : ∃ q c, v = .slice q ws.length c := by
 rcases h.2 with ⟨rfl, h0⟩ | ⟨g, cap, cur, rfl, _⟩
 ·exact ⟨none, 0, by rw [h0]⟩
 ·exact ⟨_, _, rfl⟩
theorem OwnW.kept {w w' : World} {B : Nat} {v : Value} {ws : List Wd} {row : Option Nat} (h : OwnW w B v ws) (hg : w.grownBy w' row) (hr : ∀ r, row = some r → ∃ o : Obj, w.heap[r]? = some o ∧ o.isCells = false) : OwnW w' B v ws := by
 refine World.ownsRow.kept h hg ?_
 rcases h.2 with ⟨rfl, _⟩ | ⟨g, cap, cur, rfl, _, hgb, _⟩
 ·exact .inl rfl
 ·refine .inr fun e' => ?_
  obtain ⟨o, ho, hc⟩ := hr g (by simpa [Value.ownBlock] using e'.symm)
  rw [hgb] at ho; cases ho; cases hc
theorem infoWd : (Tryz.prog.info? 138).map (fun i => (i.zero, i.size, i.bytes)) = some (some (.agg #[.int .i64 0, .string ⟨#[]⟩, .int .i64 0, .int .i64 0]), 4, 40) := by kernel_rfl
structure AppW (w : World) (B : Nat) (v : Value) (ws : List Wd) (w' : World) (v' : Value) : Prop where
 own : OwnW w' B v' ws
 grow : w.grownBy w' v.ownBlock
 row : ∀ x, v.ownBlock = some x → B ≤ x
 type : ∀ x, v.ownBlock = some x → ∃ cs, w.heap[x]? = some (.cells cs 138 (0, 0))
theorem app_word (w : World) (ty : TypeId) (B : Nat) (v : Value) (ws : List Wd) (x : Wd) (h : OwnW w B v ws) (hB : B ≤ w.heap.size) (hlen : ws.length ≤ 1048576) :
  ∃ g cap w', (Builtin.append_ #[75, 75] ty #[v, .slice (some ⟨w.heap.size, 0, none⟩) 1 1]).run Tryz.prog (w.alloc (.cells (wdC x).toArray 138)) = .ok (.slice (some ⟨g, 0, none⟩) (ws.length + 1) cap) w' ∧ AppW (w.alloc (.cells (wdC x).toArray 138)) B v (ws ++ [x]) w' (.slice (some ⟨g, 0, none⟩) (ws.length + 1) cap) := by
 obtain ⟨i0, hi, hz0, hz1, hz2⟩ := info_parts infoWd
 have h' : OwnW (w.alloc (.cells (wdC x).toArray 138)) B v ws := h.ext ((Ext.refl w).alloc _)
 have hb := Blk.new w 138 (wdC x).toArray
 obtain ⟨g, cap, w', h2, h3, h4, h5, _⟩ := run_append_lies (P := Tryz.prog) (w.alloc (.cells (wdC x).toArray 138)) 75 ty B 138 i0 _ 4 40 Tryz.underlying75 hi hz0 hz1 hz2 rfl (by omega) v ws.length (ws.flatMap wdC) h' ⟨w.heap.size, 0, none⟩ 1 1 (wdC x) rfl (World.news_of_block (cs := (wdC x).toArray) (fr := (0, 0)) hb) (by intro u hu; simp [wdC] at hu; rcases hu with rfl | rfl | rfl | rfl <;> rfl) (by omega) (by unfold maxLen; omega) (by omega) (by rw [size_alloc]; omega) _ rfl
 refine ⟨g, cap, w', h2, ⟨by simpa [OwnW, List.flatMap_append] using h3, h4, own_block h', fun y hy => ?_⟩⟩
 rcases h'.2 with ⟨rfl, _⟩ | ⟨g', cap', cur, rfl, _, hgb, _⟩
 ·simp [Value.ownBlock] at hy
 ·obtain rfl : g' = y := by simpa [Value.ownBlock] using hy
  exact ⟨cur, hgb⟩
structure LexI (w : World) (b0 b1 b2 v : Value) (W : World) : Prop where
 r0 : Blk W w.heap.size 75 #[b0]
 r1 : Blk W (w.heap.size + 1) 3 #[b1]
 r2 : Blk W (w.heap.size + 2) 37 #[b2]
 box : Blk W (w.heap.size + 3) 75 #[v]
 sbox : ∃ s, Blk W (w.heap.size + 4) 9 #[.string s]
 ext : Ext w W
def LexG (w : World) (pre : List (Wd × Nat)) (W : World) : Prop := ∃ v, LexI w (.slice none 0 0) (.int .i64 0) (.int .i64 0) v W ∧ OwnW W (w.heap.size + 5) v (pre.map (·.1))
def LexX (w : World) (items : List (Wd × Nat)) (c : Code) (pre : List (Wd × Nat)) (W : World) : Prop := c = .ret ∧ ∃ v x pre' tail, items = pre' ++ x :: tail ∧ x.2 = 0 ∧ LexI w (.slice none 0 0) (.int .i64 x.1.a) (.int .i64 210) v W
theorem LexI.kept {w W W' : World} {b0 b1 b2 v : Value} (h : LexI w b0 b1 b2 v W) {row : Option Nat} (hg : W.grownBy W' row) (hr : ∀ r, row = some r → w.heap.size + 5 ≤ r) : LexI w b0 b1 b2 v W' := by
 have hne : ∀ k, k < w.heap.size + 5 → some k ≠ row := fun k hk e => by have := hr k e.symm; omega
 obtain ⟨s, hs⟩ := h.sbox
 exact ⟨(hg.block _ h.r0.lt (hne _ (by omega))).trans h.r0, (hg.block _ h.r1.lt (hne _ (by omega))).trans h.r1, (hg.block _ h.r2.lt (hne _ (by omega))).trans h.r2, (hg.block _ h.box.lt (hne _ (by omega))).trans h.box,
  ⟨s, (hg.block _ hs.lt (hne _ (by omega))).trans hs⟩, Below.grown h.ext hg h.ext.size (fun k e => by have := hr k e; omega)⟩
theorem LexI.alloc {w W : World} {b0 b1 b2 v : Value} (h : LexI w b0 b1 b2 v W) (o : Obj) : LexI w b0 b1 b2 v (W.alloc o) := h.kept (World.grownBy_alloc W o none) (fun r e => by cases e)
theorem LexI.bad {w W : World} {v : Value} (h : LexI w (.slice none 0 0) (.int .i64 0) (.int .i64 0) v W) (a : Int) :
  LexI w (.slice none 0 0) (.int .i64 a) (.int .i64 210) v ((((W.setCell ⟨w.heap.size, 0, none⟩ (.slice none 0 0)).setCell ⟨w.heap.size + 1, 0, none⟩ (.int .i64 a)).setCell ⟨w.heap.size + 1 + 1, 0, none⟩ (.int .i64 210)).drew) := by
 obtain ⟨s, hs⟩ := h.sbox
 exact ⟨(((h.r0.set_ 0 (.slice none 0 0)).far (by simp) _).far (by simp; omega) _), (((h.r1.far (by simp) _).set_ 0 (.int .i64 a)).far (by simp) _), (((h.r2.far (by simp) _).far (by simp) _).set_ 0 (.int .i64 210)),
  (((h.box.far (by simp) _).far (by simp) _).far (by simp) _), ⟨s, (((hs.far (by simp) _).far (by simp) _).far (by simp) _)⟩,
  (((h.ext.setCell (p := ⟨w.heap.size, 0, none⟩) (Nat.le_refl _) _).setCell (p := ⟨w.heap.size + 1, 0, none⟩) (by simp) _).setCell (p := ⟨w.heap.size + 1 + 1, 0, none⟩) (by simp; omega) _).drew⟩
theorem LexI.setbox {w W : World} {b0 b1 b2 v : Value} (h : LexI w b0 b1 b2 v W) (v' : Value) : LexI w b0 b1 b2 v' (W.setCell ⟨w.heap.size + 1 + 1 + 1, 0, none⟩ v') := by
 obtain ⟨s, hs⟩ := h.sbox
 exact ⟨h.r0.far (by simp; omega) _, h.r1.far (by simp) _, h.r2.far (by simp) _, h.box.set_ 0 v', ⟨s, hs.far (by simp) _⟩, h.ext.setCell (p := ⟨w.heap.size + 1 + 1 + 1, 0, none⟩) (by simp; omega) _⟩
theorem LexI.fin {w W : World} {b0 b1 b2 v : Value} (h : LexI w b0 b1 b2 v W) (c0 c1 c2 : Value) :
  LexI w c0 c1 c2 v (((W.setCell ⟨w.heap.size, 0, none⟩ c0).setCell ⟨w.heap.size + 1, 0, none⟩ c1).setCell ⟨w.heap.size + 1 + 1, 0, none⟩ c2) := by
 obtain ⟨s, hs⟩ := h.sbox
 exact ⟨(((h.r0.set_ 0 c0).far (by simp) _).far (by simp; omega) _), (((h.r1.far (by simp) _).set_ 0 c1).far (by simp) _), (((h.r2.far (by simp) _).far (by simp) _).set_ 0 c2),
  (((h.box.far (by simp) _).far (by simp) _).far (by simp) _), ⟨s, (((hs.far (by simp) _).far (by simp) _).far (by simp) _)⟩,
  (((h.ext.setCell (p := ⟨w.heap.size, 0, none⟩) (Nat.le_refl _) _).setCell (p := ⟨w.heap.size + 1, 0, none⟩) (by simp) _).setCell (p := ⟨w.heap.size + 1 + 1, 0, none⟩) (by simp; omega) _)⟩
theorem own_base {w : World} {base base' : Nat} {e : TypeId} {s : Nat} {v : Value} {n : Nat} {xs : List Value} (h : w.ownsRow base e s v n xs) (hb : base' ≤ base) : w.ownsRow base' e s v n xs :=
 ⟨h.1, h.2.imp id fun ⟨g, cap, cur, e1, hg, h2⟩ => ⟨g, cap, cur, e1, Nat.le_trans hb hg, h2⟩⟩
def LexRes (w : World) (l : List UInt8) (e : Ending) (w' : World) : Prop :=
 Ext w w' ∧ match lexS l with
 | .error p => e = .returned (.tuple #[.slice none 0 0, .int .i64 (p : Int), .int .i64 210])
 | .ok ws => ∃ v, e = .returned (.tuple #[v, .int .i64 0, .int .i64 0]) ∧ OwnW w' w.heap.size v ws
theorem lex_long (w : World) (s : ByteArray) (h : 1048576 < s.size) : Calls Tryz.prog 51 #[.string s] w fun e w' => e = .returned (.tuple #[.slice none 0 0, .int .i64 0, .int .i64 3]) ∧ Ext w w' := by
 have d1 : decide ((1048576 : Int) < (s.size : Int)) = true := decide_eq_true (by omega)
 have d1n : decide (1048576 < s.size) = true := decide_eq_true h
 go_enter Tryz.func51, Tryz.ntmps51
 go_wp2_with fail
 refine bodyPost_ret (v := .tuple #[.slice none 0 0, .int .i64 0, .int .i64 3]) (by simp [results, Tryz.results51, go_sem, *]) rfl ⟨rfl, ?_⟩
 repeat (first | exact Ext.refl _ | refine Ext.alloc ?_ _ | refine Ext.setCell ?_ (by simp <;> omega) _)
theorem lex_any (w : World) (s : ByteArray) (h : s.size ≤ 1048576) (hL : Laid w) : Calls Tryz.prog 51 #[.string s] w (LexRes w s.data.toList) := by
 obtain ⟨l, hl⟩ : ∃ l, s.data.toList = l := ⟨_, rfl⟩
 rw [hl]
 have HLD := Lib.hid hL
 have HLL := Lib.hid hl
 have hsz : l.length = s.size := by rw [← hl]; rfl
 have HSZ := Lib.hid hsz
 obtain ⟨items, hit⟩ : ∃ items, items = itemsP (blankS false l) (l.drop (blankS false l)) := ⟨_, rfl⟩
 have HIT := Lib.hid hit
 have d1 : decide ((1048576 : Int) < (s.size : Int)) = false := decide_eq_false (by omega)
 have d1n : decide (1048576 < s.size) = false := decide_eq_false (by omega)
 clear hL hl hsz hit
 refine (callsIn_wide (n := 5)).1 ?_
 refine callsIn_of_wp_marks Tryz.func51 rfl trivial ?_ rfl
 simp only [Tryz.ntmps51, List.size_toArray, List.length_cons, List.length_nil, Nat.reduceAdd, Nat.reduceSub, Array.replicate_succ, Array.replicate_zero, List.push_toArray, List.append_toArray, List.nil_append, List.cons_append]
 gi_wp2
 refine ⟨trivial, (all_in 4 s _).mono ?_⟩
 rintro e w' ⟨rfl, rfl⟩
 gi_wp2
 obtain ⟨W0, hW0⟩ : ∃ W0, (((((w.alloc (.cells #[.slice none 0 0] 75)).alloc (.cells #[.int .i64 0] 3)).alloc (.cells #[.int .i64 0] 37)).alloc (.cells #[.slice none 0 0] 75)).alloc (.cells #[.string s] 9)) = W0 := ⟨_, rfl⟩
 have HE0 : Hid (Ext w W0) := Lib.hid (by rw [← hW0]; exact (((((Ext.refl w).alloc _).alloc _).alloc _).alloc _).alloc _)
 have hsz0 : W0.heap.size = w.heap.size + 5 := by rw [← hW0]; simp
 have hb4 : Hid (Blk W0 (w.heap.size + 4) 9 #[.string s]) := Lib.hid (by rw [← hW0]; exact new_at (by simp) _)
 have hG0 : Hid (LexG w [] W0) := Lib.hid (by
  refine ⟨.slice none 0 0, ⟨?_, ?_, ?_, ?_, ⟨s, hb4.out⟩, HE0.out⟩, OwnW.nil _ _⟩
  ·rw [← hW0]; exact ((((Blk.new w _ _).alloc _).alloc _).alloc _).alloc _
  ·rw [← hW0]; exact (((show Blk _ (w.heap.size + 1) _ _ from new_at (by simp) _ : Blk _ _ 3 #[.int .i64 0]).alloc _).alloc _).alloc _
  ·rw [← hW0]; exact ((show Blk _ (w.heap.size + 2) _ _ from new_at (by simp) _ : Blk _ _ 37 #[.int .i64 0]).alloc _).alloc _
  ·rw [← hW0]; exact (show Blk _ (w.heap.size + 3) _ _ from new_at (by simp) _ : Blk _ _ 75 #[.slice none 0 0]).alloc _)
 have HL0 := Lib.hid (HLD.out.ext HE0.out)
 have hlow := HLD.out.low
 show Code.wpIn _ _ _ _ _ _ (((((w.alloc (.cells #[.slice none 0 0] 75)).alloc (.cells #[.int .i64 0] 3)).alloc (.cells #[.int .i64 0] 37)).alloc (.cells #[.slice none 0 0] 75)).alloc (.cells #[.string s] 9))
 rw [hW0]
 clear hW0
 refine wpIn_rangeFunc_R rfl (by omega) (gf := 172) (lb := #[.pointer (some ⟨w.heap.size + 4, 0, none⟩)]) rfl trivial (enters_of Tryz.func172 (by kernel_rfl) rfl)
  (items_in 4 (by omega) w.heap.size (w.heap.size + 4) s l HLL h W0 (by omega) hlow (by omega) hb4.out HL0.out items HIT)
  KpB.t (KpB.b (by omega) (by omega)) (Below.refl _ _) (fun _ => rfl)
  (LexG w) (LexX w items) ?own ?ownx hG0.out
  (fun x a' W => ∃ g, W0.heap.size ≤ g ∧ Blk W g 138 (wdC x.1).toArray ∧ a' = { tmps := #[.string s, undef, .pointer (some ⟨w.heap.size, 0, none⟩), .pointer (some ⟨w.heap.size + 1, 0, none⟩), .pointer (some ⟨w.heap.size + 1 + 1, 0, none⟩), .pointer (some ⟨w.heap.size + 1 + 1 + 1, 0, none⟩), .pointer (some ⟨g, 0, none⟩), .int .i64 (x.2 : Int), .string s, .int .i64 (s.size : Int), .bool false, .string s, .func (.func 172) #[] #[.pointer (some ⟨w.heap.size + 4, 0, none⟩)], x.1.v, .int .i64 (x.2 : Int), undef, undef, undef, undef, undef, undef, undef, undef, undef], defers := [] })
  ?ownax ?assign ?body ?done ?stop
 case own =>
  rintro pre X Y row ⟨v, h1, h2⟩ hg hr
  exact ⟨v, h1.kept hg (fun r e => by have := (hr r e).1; omega), h2.kept hg (fun r e => (hr r e).2)⟩
 case ownx =>
  rintro c pre X Y row ⟨hc, v, x, pre', tail, h1, h2, h3⟩ hg hr
  exact ⟨hc, v, x, pre', tail, h1, h2, h3.kept hg (fun r e => by have := (hr r e).1; omega)⟩
 case ownax =>
  rintro x a' X Y row ⟨g, h1, h2, h3⟩ hg hr
  refine ⟨g, h1, (hg.block _ h2.lt (fun e => ?_)).trans h2, h3⟩
  obtain ⟨o, ho, hc⟩ := (hr g e.symm).2
  rw [show X.heap[g]? = _ from h2] at ho; cases ho; cases hc
 case assign =>
  rintro q pre ⟨x, m⟩ W K ⟨v, hI, hO⟩ hR hK
  have hx : x.v = .agg #[.int .i64 x.k, .string ⟨x.t.toArray⟩, .int .i64 x.n, .int .i64 x.a] := rfl
  have hWs : w.heap.size + 5 ≤ W.heap.size := by have := hI.sbox; obtain ⟨s', h'⟩ := this; have := h'.lt; omega
  simp only [encW, hx]
  gi_wp2
  exact hK _ _ ((KeepsOthers.alloc _ _).from _) ⟨(Below.refl _ W).alloc (by omega) _, Below.heap_alloc _ _ _ (by omega)⟩ ⟨v, hI.alloc _, hO.ext ((Ext.refl W).alloc _)⟩ ⟨W.heap.size, by omega, Blk.new _ _ _, rfl⟩
 case body =>
  rintro q pre ⟨x, m⟩ a' W ⟨v, hI, hO⟩ hR ⟨g, hg, hB, rfl⟩
  have hx : x.v = .agg #[.int .i64 x.k, .string ⟨x.t.toArray⟩, .int .i64 x.n, .int .i64 x.a] := rfl
  have x0 : W.cell? ⟨g, 0, none⟩ = some (.int .i64 x.k) := hB.cell 0
  have x1 : W.cell? ⟨g, 1, none⟩ = some (.string ⟨x.t.toArray⟩) := hB.cell 1
  have x2 : W.cell? ⟨g, 2, none⟩ = some (.int .i64 x.n) := hB.cell 2
  have x3 : W.cell? ⟨g, 3, none⟩ = some (.int .i64 x.a) := hB.cell 3
  have a0 : W.cell? ⟨w.heap.size, 0, none⟩ = some (.slice none 0 0) := hI.r0.cell 0
  have a1 : W.cell? ⟨w.heap.size + 1, 0, none⟩ = some (.int .i64 0) := hI.r1.cell 0
  have a2 : W.cell? ⟨w.heap.size + 1 + 1, 0, none⟩ = some (.int .i64 0) := hI.r2.cell 0
  have a3 : W.cell? ⟨w.heap.size + 1 + 1 + 1, 0, none⟩ = some v := hI.box.cell 0
  have f0 : W.frozen? ⟨w.heap.size, 0, none⟩ = false := hI.r0.frozen 0
  have f1 : W.frozen? ⟨w.heap.size + 1, 0, none⟩ = false := hI.r1.frozen 0
  have f2 : W.frozen? ⟨w.heap.size + 1 + 1, 0, none⟩ = false := hI.r2.frozen 0
  have f3 : W.frozen? ⟨w.heap.size + 1 + 1 + 1, 0, none⟩ = false := hI.box.frozen 0
  have g0 : ¬ g = w.heap.size := by omega
  have g1 : ¬ g = w.heap.size + 1 := by omega
  have g2 : ¬ g = w.heap.size + 1 + 1 := by omega
  have HI := Lib.hid hI
  have HO := Lib.hid hO
  have HR := Lib.hid hR
  have HB := Lib.hid hB
  have HLOW := Lib.hid hlow
  clear hI hO hR hB hlow
  simp only [hx]
  cases m with
  | zero =>
   have hmx : Tryz.prog.follows .mixedOrders = true := by kernel_rfl
   have HBAD := Lib.hid (HI.out.bad x.a)
   obtain ⟨tail, htl⟩ := HR.out
   have HT := Lib.hid htl
   clear htl
   gi_wp2
   gi_region_with_o (fail)
   all_goals gi_wp2
   all_goals
    refine ⟨((((KeepsOthers.setCell _ _ _).trans (KeepsOthers.setCell _ _ _)).trans (KeepsOthers.setCell _ _ _)).trans (KeepsOthers.drew _)).from _, rfl, v, (x, 0), pre, tail, HT.out, rfl, HBAD.out⟩
  | succ m =>
   have dm : (((m + 1 : Nat) : Int) == 0) = false := by rw [beq_eq_false_iff_ne]; omega
   have hlen : (pre.map (·.1)).length ≤ 1048576 := by
    obtain ⟨tail, htl⟩ := HR.out
    have h1 := congrArg List.length htl
    rw [HIT.out] at h1
    have h2 := items_len _ (l.drop (blankS false l)) (blankS false l) (Nat.le_refl _)
    rw [List.length_drop] at h2
    have h3 := HSZ.out
    rw [List.length_append, List.length_cons] at h1
    rw [List.length_map]
    omega
   have hWs : w.heap.size + 5 ≤ W.heap.size := by
    obtain ⟨s', h'⟩ := HI.out.sbox
    have := h'.lt
    omega
   obtain ⟨gg, cap, W2, hrun, happ⟩ := app_word W 75 (w.heap.size + 5) v (pre.map (·.1)) x HO.out hWs hlen
   have HRUN := Lib.hid hrun
   have HI2 : Hid (LexI w (.slice none 0 0) (.int .i64 0) (.int .i64 0) v W2) := Lib.hid ((HI.out.alloc _).kept happ.grow happ.row)
   obtain ⟨j, hj⟩ : ∃ j, m + 1 = j := ⟨_, rfl⟩
   have hj1 : 1 ≤ j := by omega
   rw [hj] at dm ⊢
   have HJ := Lib.hid hj
   obtain ⟨nn, hnn⟩ : ∃ nn, (pre.map (·.1)).length + 1 = nn := ⟨_, rfl⟩
   rw [hnn] at HRUN happ
   have HA := Lib.hid happ
   have b3 : W2.cell? ⟨w.heap.size + 1 + 1 + 1, 0, none⟩ = some v := HI2.out.box.cell 0
   have h3 : W2.frozen? ⟨w.heap.size + 1 + 1 + 1, 0, none⟩ = false := HI2.out.box.frozen 0
   have hlt3 : w.heap.size + 1 + 1 + 1 < W2.heap.size := HI2.out.box.lt
   obtain ⟨qv, cv, hv⟩ := HO.out.slice
   have hvv : ∃ qv nv cv, v = .slice qv nv cv := ⟨_, _, _, hv⟩
   clear hv
   obtain ⟨qv, nv, cv, rfl⟩ := hvv
   have HWS := Lib.hid hWs
   clear hrun happ hj hnn hlen hWs
   gi_wp2_with (gi_at_builtin; refine wpListIn_append_run rfl _ _ 75 rfl _ _ _ _ rfl rfl HRUN.out ?_)
   refine ⟨?_, ?_, by first | exact hj1 | trivial, .slice (some ⟨gg, 0, none⟩) nn cap, HI2.out.setbox _, ?_⟩
   ·refine (((KeepsOthers.alloc W _).trans (KeepsOthers.of_grownBy HA.out.grow fun j o ej hj => ?_)).trans (KeepsOthers.setCell _ _ _)).from _
    obtain ⟨cs, hcs⟩ := HA.out.type j ej
    rw [hcs] at hj; cases hj; rfl
   ·have hws := HWS.out
    have hrow := HA.out.row
    refine ⟨(((Below.refl w.heap.size W).alloc (by omega) _).grown HA.out.grow (by rw [size_alloc]; omega) (fun k e => by have := hrow k e; omega)).setCell (p := ⟨w.heap.size + 1 + 1 + 1, 0, none⟩) (by simp; omega) _, ?_⟩
    refine (Below.heap_setCell _ _ _ _ (by simp)).trans ((HA.out.grow.block _ (by rw [size_alloc]; omega) (fun e => by have := hrow _ e.symm; omega)).trans (Below.heap_alloc _ _ _ (by omega)))
   ·rw [List.map_append]
    exact own_set HA.out.own (by omega)
 case done =>
  rintro D ys W hD ⟨rfl, hall⟩ ⟨v, hI, hO⟩ hK
  have a0 : W.cell? ⟨w.heap.size, 0, none⟩ = some (.slice none 0 0) := hI.r0.cell 0
  have a1 : W.cell? ⟨w.heap.size + 1, 0, none⟩ = some (.int .i64 0) := hI.r1.cell 0
  have a2 : W.cell? ⟨w.heap.size + 1 + 1, 0, none⟩ = some (.int .i64 0) := hI.r2.cell 0
  have a3 : W.cell? ⟨w.heap.size + 1 + 1 + 1, 0, none⟩ = some v := hI.box.cell 0
  have f0 : W.frozen? ⟨w.heap.size, 0, none⟩ = false := hI.r0.frozen 0
  have f1 : W.frozen? ⟨w.heap.size + 1, 0, none⟩ = false := hI.r1.frozen 0
  have f2 : W.frozen? ⟨w.heap.size + 1 + 1, 0, none⟩ = false := hI.r2.frozen 0
  obtain ⟨qv, cv, hv⟩ := hO.slice
  have hvv : ∃ qv nv cv, v = .slice qv nv cv := ⟨_, _, _, hv⟩
  clear hv
  obtain ⟨qv, nv, cv, rfl⟩ := hvv
  have HI := Lib.hid hI
  have HO := Lib.hid hO
  have HALL := Lib.hid hall
  clear hI hO hall
  gi_wp2
  have hI3 := HI.out.fin (.slice qv nv cv) (.int .i64 0) (.int .i64 0)
  have hK3 := (((KeepsOthers.setCell W ⟨w.heap.size, 0, none⟩ (.slice qv nv cv)).trans (KeepsOthers.setCell _ ⟨w.heap.size + 1, 0, none⟩ (.int .i64 0))).trans (KeepsOthers.setCell _ ⟨w.heap.size + 1 + 1, 0, none⟩ (.int .i64 0))).same D _ hK rfl
  have hO3 := own_set (g := w.heap.size + 1 + 1) (i := 0) (u := .int .i64 0) (own_set (g := w.heap.size + 1) (i := 0) (u := .int .i64 0) (own_set (g := w.heap.size) (i := 0) (u := .slice qv nv cv) HO.out (by omega)) (by omega)) (by omega)
  obtain ⟨W3, hW3⟩ : ∃ W3, (((W.setCell ⟨w.heap.size, 0, none⟩ (.slice qv nv cv)).setCell ⟨w.heap.size + 1, 0, none⟩ (.int .i64 0)).setCell ⟨w.heap.size + 1 + 1, 0, none⟩ (.int .i64 0)) = W3 := ⟨_, rfl⟩
  rw [hW3] at hI3 hK3 hO3 ⊢
  refine ⟨by simp, .inl ⟨_, _, rfl, run_takeDeferred hK3, ?_⟩⟩
  have hI4 := hI3.kept (grownBy_putObj' W3 D (.deferred none)) (fun r e => by cases e; omega)
  have hO4 : OwnW (W3.putObj D (.deferred none)) (w.heap.size + 5) (.slice qv nv cv) (ys.map (·.1)) := OwnW.kept hO3 (grownBy_putObj' W3 D (.deferred none)) (fun r e => by cases e; exact ⟨_, hK3, rfl⟩)
  have c0 : (W3.putObj D (.deferred none)).cell? ⟨w.heap.size, 0, none⟩ = some (.slice qv nv cv) := hI4.r0.cell 0
  have c1 : (W3.putObj D (.deferred none)).cell? ⟨w.heap.size + 1, 0, none⟩ = some (.int .i64 0) := hI4.r1.cell 0
  have c2 : (W3.putObj D (.deferred none)).cell? ⟨w.heap.size + 1 + 1, 0, none⟩ = some (.int .i64 0) := hI4.r2.cell 0
  have hlex : lexS l = .ok (ys.map (·.1)) := by
   unfold lexS
   rw [lex_fine _ _ _ (Nat.le_refl _) (by rw [← HIT.out]; exact HALL.out), ← HIT.out]
  refine ⟨.tuple #[.slice qv nv cv, .int .i64 0, .int .i64 0], ?_, hI4.ext, ?_⟩
  ·simp [results, Tryz.f51, go_sem, c0, c1, c2]
  ·rw [hlex]
   exact ⟨_, rfl, own_base hO4 (by omega)⟩
 case stop =>
  rintro D c pre W hD _ ⟨rfl, v, x, pre', tail, htl, hx0, hI⟩ hK
  have HI := Lib.hid hI
  have HT := Lib.hid htl
  have HX0 := Lib.hid hx0
  clear hI htl hx0
  gi_wp2
  refine ⟨by simp, .inl ⟨_, _, rfl, run_takeDeferred hK, ?_⟩⟩
  have hI4 := HI.out.kept (grownBy_putObj' W D (.deferred none)) (fun r e => by cases e; omega)
  have c0 : (W.putObj D (.deferred none)).cell? ⟨w.heap.size, 0, none⟩ = some (.slice none 0 0) := hI4.r0.cell 0
  have c1 : (W.putObj D (.deferred none)).cell? ⟨w.heap.size + 1, 0, none⟩ = some (.int .i64 x.1.a) := hI4.r1.cell 0
  have c2 : (W.putObj D (.deferred none)).cell? ⟨w.heap.size + 1 + 1, 0, none⟩ = some (.int .i64 210) := hI4.r2.cell 0
  obtain ⟨p, hp, hlex⟩ := lex_bad _ _ _ pre' tail x (Nat.le_refl _) (by rw [← HIT.out]; exact HT.out) HX0.out
  rw [hp] at c1
  refine ⟨.tuple #[.slice none 0 0, .int .i64 (p : Int), .int .i64 210], ?_, hI4.ext, ?_⟩
  ·simp [results, Tryz.f51, go_sem, c0, c1, c2]
  ·have hlex2 : lexS l = .error p := hlex
   rw [hlex2]
end Go.Proofs.YtkbcnacjaakleaaGreatDoor
namespace Go.Proofs.YtkbcnacjaakleaaGreatDoor
open Go.RowKit

theorem OwnW.cells {w : World} {B : Nat} {v : Value} {ws : List Wd} (h : OwnW w B v ws) : ∃ q c, v = .slice q ws.length c ∧ (0 < ws.length → ∃ g, q = some ⟨g, 0, none⟩ ∧ B ≤ g ∧ ∀ i (hi : i < ws.length),
  w.cell? ⟨g, i * 4, none⟩ = some (.int .i64 ws[i].k) ∧ w.cell? ⟨g, i * 4 + 1, none⟩ = some (.string ⟨ws[i].t.toArray⟩) ∧ w.cell? ⟨g, i * 4 + 2, none⟩ = some (.int .i64 ws[i].n) ∧ w.cell? ⟨g, i * 4 + 3, none⟩ = some (.int .i64 ws[i].a)) := by
 rcases h.2 with ⟨rfl, h0⟩ | ⟨g, cap, cur, rfl, hb, _⟩
 ·exact ⟨none, 0, by rw [h0], fun h => by omega⟩
 ·refine ⟨_, cap, rfl, fun _ => ⟨g, rfl, hb, fun i hi => ?_⟩⟩
  have key : ∀ (j : Nat) (u : Value), (ws.flatMap wdC)[i * 4 + j]? = some u → w.cell? ⟨g, i * 4 + j, none⟩ = some u := fun j u hu => by
   have h1 := World.ownsRow.cells h (g := g) rfl (i * 4 + j) u hu
   have hadd : (⟨g, 0, none⟩ : Addr).add (i * 4 + j) = ⟨g, 0 + (i * 4 + j), none⟩ := by unfold Addr.add; split <;> simp_all
   rwa [hadd, Nat.zero_add] at h1
  have fl : ∀ (l : List Wd) (i : Nat) (hi : i < l.length) (j : Nat), j < 4 → (l.flatMap wdC)[i * 4 + j]? = (wdC l[i])[j]? := by
   intro l
   induction l with
   | nil => intro i hi; simp at hi
   | cons y l ih =>
    intro i hi j hj
    rw [List.flatMap_cons]
    cases i with
    | zero => rw [List.getElem?_append_left (by show 0 * 4 + j < 4; omega)]; simp
    | succ i =>
     rw [List.getElem?_append_right (by show 4 ≤ _; omega)]
     have e : (i + 1) * 4 + j - (wdC y).length = i * 4 + j := by show (i + 1) * 4 + j - 4 = _; omega
     rw [e, ih i (by simpa using hi) j hj]
     rfl
  refine ⟨key 0 _ ?_, key 1 _ ?_, key 2 _ ?_, key 3 _ ?_⟩ <;> rw [fl ws i hi _ (by omega)] <;> rfl
theorem index_tx {f : Nat} {lb : Array Value} {p : ByteArray → Bool} (w : World) (ok : Nat → Prop) (v : Value) (l : List ByteArray) (hv : TxtsAt ok w v l) (hlen : l.length ≤ 9223372036854775806)
  (hF : ∀ (args : Array Value) (w : World), (callFunc f args).run Tryz.prog w = .ok (.enter f args) w)
  (hsub : ∀ x ∈ l, ∀ W, Ext w W → Calls Tryz.prog f (#[.string x] ++ lb) W fun e w' => e = .returned (.bool (p x)) ∧ Ext W w') :
  Calls Tryz.prog 137 #[v, .func (.func f) #[] lb] w fun e w' => (∃ i : Int, e = .returned (.int .i64 i) ∧ decide (0 ≤ i) = l.any p) ∧ Ext w w' := by
 obtain ⟨q, c, rfl⟩ := hv.slice
 have HX := Lib.hid hv
 have HS := Lib.hid hsub
 obtain ⟨n, hn⟩ : ∃ n, l.length = n := ⟨_, rfl⟩
 rw [hn] at hlen ⊢
 have HN := Lib.hid hn
 obtain ⟨r, hr⟩ : ∃ r, l.any p = r := ⟨_, rfl⟩
 rw [hr]
 have HR := Lib.hid hr
 clear hv hsub hn hr
 go_enter Tryz.func137, Tryz.ntmps137
 go_wp2_with fail
 go_loopw [8] (fun i wr => ∃ k : Nat, k ≤ n ∧ i = .int .i64 k ∧ Hid ((l.drop k).any p = r) ∧ Hid (Ext w wr)) (fun i _ => n - (intOf i).toNat)
 case atStart => exact ⟨0, Nat.zero_le _, rfl, HR, Lib.hid (Ext.refl w)⟩
 case round =>
  obtain ⟨k, hk, rfl, HK, HE⟩ := hrel
  by_cases hlt : k < n
  ·have kl : k < l.length := by rw [HN.out]; exact hlt
   obtain ⟨b, o, rfl, c0⟩ := ((HX.out).ext HE.out).elem kl
   have hc := HS.out l[k] (List.getElem_mem kl) wr HE.out
   have hd := any_drop p l k kl
   rw [HK.out] at hd
   obtain ⟨x, hx'⟩ : ∃ x, l[k] = x := ⟨_, rfl⟩
   rw [hx'] at c0 hd hc
   have k0 : (0 : Int) ≤ (k : Int) := by omega
   have k1 : (k : Int) < (n : Int) := by omega
   have HD := Lib.hid hd
   have HC := Lib.hid hc
   clear hx' kl hd hc
   go_wp2_with fail
   refine HC.out.mono ?_
   rintro e w1 ⟨rfl, he⟩
   have HE1 := Lib.hid (HE.out.trans he)
   clear he HC c0
   obtain ⟨m, hm⟩ : ∃ m, p x = m := ⟨_, rfl⟩
   rw [hm]
   have hd := HD.out
   rw [hm] at hd
   clear hm HD
   cases m
   ·have HD : Hid ((l.drop (k + 1)).any p = r) := Lib.hid (by rw [hd, Bool.false_or])
    clear hd
    go_wp2_with fail
    go_roundw
    case rel => exact ⟨k + 1, hlt, by go_num, HD, HE1⟩
    case measure => simp [intOf]; omega
   ·have hrr : r = true := hd
    clear hd
    subst hrr
    go_wp2_with fail
    go_ret
    exact ⟨⟨_, rfl, decide_eq_true (by omega)⟩, HE1.out⟩
  ·obtain rfl : k = n := by omega
   have hrr : r = false := by rw [← HK.out, List.drop_eq_nil_of_le (by rw [HN.out]; exact Nat.le_refl _)]; rfl
   subst hrr
   go_wp2_with fail
   go_ret
   exact ⟨⟨_, rfl, rfl⟩, HE.out⟩
theorem contains_tx {f : Nat} {lb : Array Value} {p : ByteArray → Bool} (w : World) (ok : Nat → Prop) (v : Value) (l : List ByteArray) (hv : TxtsAt ok w v l) (hlen : l.length ≤ 9223372036854775806)
  (hF : ∀ (args : Array Value) (w : World), (callFunc f args).run Tryz.prog w = .ok (.enter f args) w)
  (hsub : ∀ x ∈ l, ∀ W, Ext w W → Calls Tryz.prog f (#[.string x] ++ lb) W fun e w' => e = .returned (.bool (p x)) ∧ Ext W w') :
  Calls Tryz.prog 71 #[v, .func (.func f) #[] lb] w fun e w' => e = .returned (.bool (l.any p)) ∧ Ext w w' := by
 have HI := Lib.hid (index_tx w ok v l hv hlen hF hsub)
 clear hv hsub
 go_enter Tryz.func71, Tryz.ntmps71
 go_wp2_with fail
 refine HI.out.mono ?_
 rintro e w1 ⟨⟨i, rfl, hi⟩, he⟩
 have HE := Lib.hid he
 have HB := Lib.hid hi
 clear he hi
 go_wp2_with fail
 go_ret
 exact ⟨ret_of (bool_eq HB.out), HE.out⟩
theorem noname_any (w : World) (hL : Laid w) (x : ByteArray) : Calls Tryz.prog 72 (#[.string x] ++ #[]) w fun e w' => e = .returned (.bool (!nameP x.data.toList)) ∧ Ext w w' := by
 have HN := Lib.hid (name_any w x hL.asc)
 generalize nameP x.data.toList = b at *
 clear hL
 go_enter Tryz.func72, Tryz.ntmps72
 go_wp2_with fail
 refine HN.out.mono ?_
 rintro e w1 ⟨rfl, e1⟩
 have E1 := Lib.hid e1
 clear e1
 go_wp2_with fail
 go_ret
 exact ⟨rfl, E1.out⟩
theorem badnames_any (w : World) (hL : Laid w) (ok : Nat → Prop) (v : Value) (l : List ByteArray) (hv : TxtsAt ok w v l) (hlen : l.length ≤ 140737488355328) :
  Calls Tryz.prog 71 #[v, .func (.func 72) #[] #[]] w fun e w' => e = .returned (.bool (!l.all (fun x => nameP x.data.toList))) ∧ Ext w w' := by
 have h := contains_tx (f := 72) (lb := #[]) (p := fun x => !nameP x.data.toList) w ok v l hv (by omega) (fun _ _ => rfl) (fun x _ W he => noname_any W (hL.ext he) x)
 have he : (l.any fun x => !nameP x.data.toList) = !l.all (fun x => nameP x.data.toList) := by
  clear h hv hlen
  induction l with
  | nil => rfl
  | cons x l ih => rw [List.any_cons, List.all_cons, Bool.not_and, ih]
 rw [he] at h
 exact h
/-! ### operators -/
theorem oper1_any (w : World) (M B : Nat) (xs : List ByteArray) (s : ByteArray) (hM : SetM w M xs) (hB : Blk w B 9 #[.string s]) :
  Calls Tryz.prog 143 (#[.map (some M)] ++ #[.pointer (some ⟨B, 0, none⟩)]) w fun e w' => e = .returned (.bool (xs.any fun x => x.data == s.data)) ∧ Ext w w' := by
 have hl := hM.look s
 have hb := hB.cell 0
 simp only [List.getElem?_toArray, List.getElem?_cons_zero] at hb
 generalize (xs.any fun x => x.data == s.data) = b at *
 clear hM hB
 go_enter Tryz.func143, Tryz.ntmps143
 go_wp2_with fail
 go_ret
 exact ⟨rfl, Ext.refl w⟩
def anyBond (s : ByteArray) : Nat → Nat → Bool
 | 0, _ => false
 | n + 1, i => ((bondB i).any fun x => x.data == s.data) || anyBond s n (i + 1)
theorem bond_has (i : Nat) (s : ByteArray) : ((bondB i).any fun x => x.data == s.data) = (bondL.getD i []).contains s.data.toList := by
 unfold bondB
 rw [List.any_map, List.contains_eq_any_beq]
 congr 1
 funext t
 simp only [Function.comp]
 rw [Bool.eq_iff_iff, beq_iff_eq, beq_iff_eq]
 exact ⟨fun h => by rw [← h], fun h => by rw [← h]⟩
theorem anyBond_oper (s : ByteArray) : anyBond s 6 0 = operB s.data.toList := by
 unfold operB
 simp only [anyBond, bond_has]
 rfl
theorem index_mp (w : World) (bb B : Nat) (s : ByteArray) (hm : ∀ i, i < 6 → ∃ M, w.cell? ⟨bb, i, none⟩ = some (.map (some M)) ∧ SetM w M (bondB i)) (hB : Blk w B 9 #[.string s]) :
  Calls Tryz.prog 209 #[.slice (some ⟨bb, 0, none⟩) 6 6, .func (.func 143) #[] #[.pointer (some ⟨B, 0, none⟩)]] w fun e w' => (∃ i : Int, e = .returned (.int .i64 i) ∧ decide (0 ≤ i) = operB s.data.toList) ∧ Ext w w' := by
 have HM := Lib.hid hm
 have HB := Lib.hid hB
 have hF : ∀ (args : Array Value) (w : World), (callFunc 143 args).run Tryz.prog w = .ok (.enter 143 args) w := fun _ _ => rfl
 obtain ⟨r, hr⟩ : ∃ r, operB s.data.toList = r := ⟨_, rfl⟩
 rw [hr]
 have HR : Hid (anyBond s 6 0 = r) := Lib.hid (by rw [anyBond_oper]; exact hr)
 clear hm hB hr
 go_enter Tryz.func209, Tryz.ntmps209
 go_wp2_with fail
 go_loopw [8] (fun i wr => ∃ k : Nat, k ≤ 6 ∧ i = .int .i64 k ∧ Hid (anyBond s (6 - k) k = r) ∧ Hid (Ext w wr)) (fun i _ => 6 - (intOf i).toNat)
 case atStart => exact ⟨0, Nat.zero_le _, rfl, HR, Lib.hid (Ext.refl w)⟩
 case round =>
  obtain ⟨k, hk, rfl, HK, HE⟩ := hrel
  by_cases hlt : k < 6
  ·obtain ⟨M, c0, hM⟩ := HM.out k hlt
   replace c0 := HE.out.cell c0
   have hc := oper1_any wr M B (bondB k) s (hM.ext HE.out) (HB.out.ext HE.out)
   have hd := HK.out
   have h6 : 6 - k = (6 - (k + 1)) + 1 := by omega
   rw [h6] at hd
   simp only [anyBond] at hd
   obtain ⟨m, hm⟩ : ∃ m, ((bondB k).any fun x => x.data == s.data) = m := ⟨_, rfl⟩
   rw [hm] at hd hc
   have k0 : (0 : Int) ≤ (k : Int) := by omega
   have k1 : (k : Int) < 6 := by omega
   have k2 : k < 6 := hlt
   have HC := Lib.hid hc
   have HD := Lib.hid hd
   clear hm hM hc h6 hd
   go_wp2_with fail
   refine HC.out.mono ?_
   rintro e w1 ⟨rfl, he⟩
   have HE1 := Lib.hid (HE.out.trans he)
   clear he HC c0
   cases m
   ·have HD2 : Hid (anyBond s (6 - (k + 1)) (k + 1) = r) := Lib.hid (by rw [← HD.out, Bool.false_or])
    go_wp2_with fail
    go_roundw
    case rel => exact ⟨k + 1, hlt, by go_num, HD2, HE1⟩
    case measure => simp [intOf]; omega
   ·have hrr : r = true := by rw [← HD.out, Bool.true_or]
    subst hrr
    go_wp2_with fail
    go_ret
    exact ⟨⟨_, rfl, decide_eq_true (by omega)⟩, HE1.out⟩
  ·obtain rfl : k = 6 := by omega
   have hrr : r = false := by rw [← HK.out]; rfl
   subst hrr
   go_wp2_with fail
   go_ret
   exact ⟨⟨_, rfl, rfl⟩, HE.out⟩
theorem operators_any (w : World) (s : ByteArray) : Calls Tryz.prog 74 #[.string s] w fun e w' => e = .returned (.bool (operB s.data.toList)) ∧ Ext w w' := by
 have HB := Lib.hid (Blk.new w 9 #[.string s])
 have HE := Lib.hid ((Ext.refl w).alloc (.cells #[.string s] 9))
 obtain ⟨r, hr⟩ : ∃ r, operB s.data.toList = r := ⟨_, rfl⟩
 have HI := Lib.hid (index_mp (s := s) (B := w.heap.size))
 rw [hr] at HI ⊢
 clear hr
 go_enter Tryz.func74, Tryz.ntmps74
 go_wp2_with fail
 refine (bonds_any _).mono ?_
 rintro e w1 ⟨bb, rfl, hbb, e1, hm⟩
 have E1 := Lib.hid (HE.out.trans e1)
 have hI := HI.out w1 bb hm (HB.out.ext e1)
 have HI2 := Lib.hid hI
 clear e1 hm hI hbb HI
 go_wp2_with fail
 have hC : Calls Tryz.prog 141 #[.slice (some ⟨bb, 0, none⟩) 6 6, .func (.func 143) #[] #[.pointer (some ⟨w.heap.size, 0, none⟩)]] w1 fun e w' => e = .returned (.bool r) ∧ Ext w1 w' := by
  go_enter Tryz.func141, Tryz.ntmps141
  go_wp2_with fail
  refine HI2.out.mono ?_
  rintro e w2 ⟨⟨i, rfl, hi⟩, he⟩
  have HE2 := Lib.hid he
  have HB2 := Lib.hid hi
  clear he hi
  go_wp2_with fail
  go_ret
  exact ⟨ret_of (bool_eq HB2.out), HE2.out⟩
 refine hC.mono ?_
 rintro e w2 ⟨rfl, e2⟩
 have E2 := Lib.hid (E1.out.trans e2)
 clear e2 hC
 go_wp2_with fail
 go_ret
 exact ⟨rfl, E2.out⟩
end Go.Proofs.YtkbcnacjaakleaaGreatDoor
