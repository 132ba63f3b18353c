/- How the document's heap lies; two values are the same. The document's heap: the number of a value's table; what is under a key. What is under a key, by the document's heap. How long a value is, by the document's heap. Two rows of values that are built side by side. A table's keys, by the program's heap. The library's Names. -/
import Derived.Test.YtfagldjhibdfhaaGreatDoorYA3
import Derived.Laws.StructEq
import Derived.LoopTactic
import Derived.Deep.RegionHeld3
import Derived.Laws.OwnMore
import Derived.Maps.AppendAt
import Derived.Test.YtfagldjhibdfhaaGreatDoorYA4
import Derived.Test.YtfagldjhibdfhaaGreatDoorYA5
namespace Go.Proofs.YtfagldjhibdfhaaGreatDoor
open Go.RowKit
set_option linter.unusedVariables false
set_option linter.unusedSimpArgs false

theorem infoVal : (Tryz.prog.info? 26).map (fun i => (i.zero, i.size, i.bytes)) = some (some Vl.zero.v, 3, 32) := by kernel_rfl
abbrev vcells (x : Vl) : List Value := [.int .i64 x.k, .int .i64 x.n, .string x.s]
abbrev flat (l : List Vl) : List Value := l.flatMap vcells
theorem flat_snoc (l : List Vl) (x : Vl) : flat (l ++ [x]) = flat l ++ vcells x := by simp [flat]
theorem flat_get : ∀ (l : List Vl) (i : Nat) (x : Vl), l[i]? = some x → (flat l)[i * 3]? = some (.int .i64 x.k) ∧ (flat l)[i * 3 + 1]? = some (.int .i64 x.n) ∧ (flat l)[i * 3 + 2]? = some (.string x.s)
 | [], i, x, h => by simp at h
 | y :: l, 0, x, h => by simp at h; subst h; exact ⟨rfl, rfl, rfl⟩
 | y :: l, i + 1, x, h => by
  have := flat_get l i x (by simpa using h)
  have e : (i + 1) * 3 = i * 3 + 1 + 1 + 1 := by omega
  rw [e]
  simpa [flat] using this
def RowAt (w : World) (v : Value) (l : List Vl) : Prop := w.ownsRow 0 26 3 v l.length (flat l)
theorem RowAt.nil (w : World) : RowAt w (.slice none 0 0) [] := World.ownsRow_nil _ _ _ _
theorem RowAt.ext {w w' : World} {v : Value} {l : List Vl} (h : RowAt w v l) (he : Ext w w') : RowAt w' v l := own_ext h he
theorem RowAt.slice {w : World} {v : Value} {l : List Vl} (h : RowAt w v l) : ∃ q cap, v = .slice q l.length cap := by
 rcases h.2 with ⟨rfl, h0⟩ | ⟨g, cap, cur, rfl, _⟩
 ·exact ⟨none, 0, by rw [h0]⟩
 ·exact ⟨_, _, rfl⟩
theorem RowAt.lt {w : World} {v : Value} {l : List Vl} (h : RowAt w v l) : ∀ k, v.ownBlock = some k → k < w.heap.size ∧ ∃ cs, w.heap[k]? = some (.cells cs 26 (0, 0)) := by
 intro k hk
 rcases h.2 with ⟨rfl, _⟩ | ⟨g, cap, cur, rfl, hb, hc, _⟩
 ·simp [Value.ownBlock] at hk
 ·obtain rfl := Option.some.inj hk
  exact ⟨(Array.getElem?_eq_some_iff.1 hc).1, _, hc⟩
theorem RowAt.of_heap {w w' : World} {v : Value} {l : List Vl} (h : RowAt w v l) (he : ∀ k, v.ownBlock = some k → w'.heap[k]? = w.heap[k]?) : RowAt w' v l := by
 obtain ⟨hl, hrow⟩ := h
 refine ⟨hl, ?_⟩
 rcases hrow with h1 | ⟨gb, cap, cur, e1, hb, hc, h2⟩
 ·exact .inl h1
 ·exact .inr ⟨gb, cap, cur, e1, hb, (he gb (by rw [e1]; rfl)).trans hc, h2⟩
theorem RowAt.cells {w : World} {v : Value} {l : List Vl} (h : RowAt w v l) (i : Nat) (x : Vl) (hx : l[i]? = some x) :
  ∃ b cap, v = .slice (some ⟨b, 0, none⟩) l.length cap ∧ b < w.heap.size ∧ w.cell? ⟨b, i * 3, none⟩ = some (.int .i64 x.k) ∧ w.cell? ⟨b, i * 3 + 1, none⟩ = some (.int .i64 x.n) ∧ w.cell? ⟨b, i * 3 + 2, none⟩ = some (.string x.s) := by
 obtain ⟨hl, hrow⟩ := h
 have hi : i < l.length := (List.getElem?_eq_some_iff.1 hx).1
 rcases hrow with ⟨h1, h2⟩ | ⟨gb, cap, cur, e1, hb, hc, h2, h3, h4, h5⟩
 ·omega
 ·obtain ⟨g1, g2, g3⟩ := flat_get l i x hx
  rw [← h5, List.getElem?_take] at g1 g2 g3
  rw [if_pos (by omega)] at g1 g2 g3
  refine ⟨gb, cap, e1, (Array.getElem?_eq_some_iff.1 hc).1, ?_, ?_, ?_⟩
  ·rw [cell_of_row w gb _ cur _ (0, 0) hc]; simpa using g1
  ·rw [cell_of_row w gb _ cur _ (0, 0) hc]; simpa using g2
  ·rw [cell_of_row w gb _ cur _ (0, 0) hc]; simpa using g3
def RTbAt (w : World) (r : Value × Value) (T : Tb) : Prop := ∃ L : Tb, TRow L T ∧ RowAt w r.1 (L.map (·.1)) ∧ RowAt w r.2 (L.map (·.2))
abbrev rrowOf (rows : List (Value × Value)) : List Value := rows.flatMap fun r => [r.1, r.2]
structure RHeapIn (w : World) (g : Nat) (tv : Value) (H : Hp) : Prop where
 head : RB w g tv H.cells H.spent
 rows : ∃ rows : List (Value × Value), w.ownsRow 0 153 2 tv H.tabs.length (rrowOf rows) ∧ rows.length = H.tabs.length ∧
  ∀ (i : Nat) (r : Value × Value) (T : Tb), rows[i]? = some r → H.tabs[i]? = some T → RTbAt w r T
 ok : HOk H
def RFoot (g : Nat) (tv : Value) (k : Nat) : Prop := k = g ∨ tv.ownBlock = some k
section
variable {w w' : World} {g g' : Nat} {tv tv' : Value} {rs : List (Nat × Nat)} {H R : Hp}
theorem RHeapIn.sort (h : RHeapIn w g tv R) {x : Nat} (hx : RFoot g tv x) : (∃ cs, w.heap[x]? = some (.cells cs 123 (0, 0))) ∨ (∃ cs, w.heap[x]? = some (.cells cs 153 (0, 0))) := by
 rcases hx with rfl | hx
 ·exact .inl ⟨_, h.head⟩
 ·obtain ⟨rows, ⟨hl, hrow⟩, _⟩ := h.rows
  rcases hrow with ⟨h1, _⟩ | ⟨gb, cap, cur, e1, hb, hc, h2⟩
  ·rw [h1] at hx; simp [Value.ownBlock] at hx
  ·rw [e1] at hx
   obtain rfl := Option.some.inj hx
   exact .inr ⟨_, hc⟩
theorem RHeapIn.low (h : RHeapIn w g tv R) {x : Nat} (hx : RFoot g tv x) : x < w.heap.size := by
 have : ∃ o, w.heap[x]? = some o := by
  rcases h.sort hx with ⟨cs, hc⟩ | ⟨cs, hc⟩ <;> exact ⟨_, hc⟩
 obtain ⟨o, ho⟩ := this
 exact (Array.getElem?_eq_some_iff.1 ho).1
theorem RHeapIn.of_heap (h : RHeapIn w g tv R) (he : ∀ (k : Nat) (cs : Array Value) (t : TypeId), w.heap[k]? = some (.cells cs t (0, 0)) → (t = 123 ∨ t = 153 ∨ t = 26) → w'.heap[k]? = w.heap[k]?) : RHeapIn w' g tv R := by
 obtain ⟨rows, ⟨hl, hrow⟩, h2, h3⟩ := h.rows
 have rowk : ∀ (v : Value) (l : List Vl), RowAt w v l → RowAt w' v l := fun v l hr => hr.of_heap fun k hk => by
  obtain ⟨_, cs, hc⟩ := hr.lt k hk
  exact he k cs _ hc (.inr (.inr rfl))
 refine ⟨(he g _ _ h.head (.inl rfl)).trans h.head, ⟨rows, ⟨hl, ?_⟩, h2, fun i r T hr hT => ?_⟩, h.ok⟩
 ·rcases hrow with h1 | ⟨gb, cap, cur, e1, hb, hc, hq⟩
  ·exact .inl h1
  ·exact .inr ⟨gb, cap, cur, e1, hb, (he gb _ _ hc (.inr (.inl rfl))).trans hc, hq⟩
 ·obtain ⟨L, l1, l2, l3⟩ := h3 i r T hr hT
  exact ⟨L, l1, rowk _ _ l2, rowk _ _ l3⟩
theorem lt_of_block {w : World} {k : Nat} {o : Obj} (h : w.heap[k]? = some o) : k < w.heap.size := (Array.getElem?_eq_some_iff.1 h).1
theorem RHeapIn.ext (h : RHeapIn w g tv R) (he : Ext w w') : RHeapIn w' g tv R := h.of_heap fun k cs t hc _ => he.block k (lt_of_block hc)
theorem RHeapIn.other (h : RHeapIn w g' tv' R) (hp : HeapIn w g tv rs H) (ht : Touch (Foot g tv rs) w w') : RHeapIn w' g' tv' R :=
 h.of_heap fun k cs t hc hty => ht.block k (lt_of_block hc) fun hf => by
  rcases hp.sort hf with ⟨cs', hc'⟩ | ⟨cs', hc'⟩ | ⟨es, c, hc'⟩
  ·rw [hc] at hc'
   injection Option.some.inj hc' with _ e
   subst e
   rcases hty with e | e | e <;> exact absurd e (by decide)
  ·rw [hc] at hc'
   injection Option.some.inj hc' with _ e
   subst e
   rcases hty with e | e | e <;> exact absurd e (by decide)
  ·rw [hc] at hc'
   cases Option.some.inj hc'
theorem HeapIn.other (h : HeapIn w g tv rs H) (hp : RHeapIn w g' tv' R) (ht : Touch (RFoot g' tv') w w') : HeapIn w' g tv rs H :=
 h.touch ht fun x hx hf => by
  rcases h.sort hx with ⟨cs, hc⟩ | ⟨cs, hc⟩ | ⟨es, c, hc⟩
  ·rcases hp.sort hf with ⟨cs', hc'⟩ | ⟨cs', hc'⟩ <;> (rw [hc] at hc'; injection Option.some.inj hc' with _ e; exact absurd e (by decide))
  ·rcases hp.sort hf with ⟨cs', hc'⟩ | ⟨cs', hc'⟩ <;> (rw [hc] at hc'; injection Option.some.inj hc' with _ e; exact absurd e (by decide))
  ·rcases hp.sort hf with ⟨cs', hc'⟩ | ⟨cs', hc'⟩ <;> (rw [hc] at hc'; cases Option.some.inj hc')
end
theorem vl_eqlIn (x y : Vl) (w : World) : (Op.equalIn 10000 26 x.v y.v).run Tryz.prog w = .ok (decide (x = y)) w := by
 have u3 := Tryz.underlying2
 have a3 := Tryz.isAgg2
 have z3 := Tryz.sizeOf2
 have u4 := Tryz.underlying24
 have a4 := Tryz.isAgg24
 have z4 := Tryz.sizeOf24
 have u5 := Tryz.underlying9
 have a5 := Tryz.isAgg9
 have z5 := Tryz.sizeOf9
 rw [show (10000 : Nat) = 9999 + 1 from rfl, run_equalIn_struct (P := Tryz.prog) w 9999 26 _ _ (by kernel_rfl) (by kernel_rfl)]
 simp only [Program.fieldsOf, Tryz.underlying26]
 go_simp
 obtain ⟨x0, x1, x2⟩ := x
 obtain ⟨y0, y1, y2⟩ := y
 show (if x0 = y0 then if x1 = y1 then if x2.toList = y2.toList then Result.ok true w else Result.ok false w else Result.ok false w else Result.ok false w) = _
 by_cases h1 : x0 = y0
 ·by_cases h2 : x1 = y1
  ·by_cases h3 : x2.toList = y2.toList
   ·have e : x2 = y2 := by
     rw [Lib.toList_data, Lib.toList_data] at h3
     exact ByteArray.ext (Array.ext' h3)
    subst h1 h2 e
    simp
   ·rw [if_pos h1, if_pos h2, if_neg h3, decide_eq_false (fun e => h3 (congrArg (fun v : Vl => v.s.toList) e))]
  ·rw [if_pos h1, if_neg h2, decide_eq_false (fun e => h2 (congrArg Vl.n e))]
 ·rw [if_neg h1, decide_eq_false (fun e => h1 (congrArg Vl.k e))]
theorem vl_guard (o : BinOp) (ho : o = .eql ∨ o = .neq) (a b : Operand) (x y : Vl) (w : World) : (eqGuard o 26 a b x.v y.v).run Tryz.prog w = .ok () w := by
 rcases ho with rfl | rfl <;> exact run_eqGuard_agg w _ _ _ _ _ _ (by kernel_rfl)
theorem vl_eql (x y : Vl) (w : World) : (binOp .eql 26 x.v y.v).run Tryz.prog w = .ok (.bool (decide (x = y))) w := by
 rw [run_eql_struct, vl_eqlIn]
 rfl
theorem vl_neq (x y : Vl) (w : World) : (binOp .neq 26 x.v y.v).run Tryz.prog w = .ok (.bool (!decide (x = y))) w := by
 rw [run_neq_struct, vl_eqlIn]
 rfl
end Go.Proofs.YtfagldjhibdfhaaGreatDoor
namespace Go.Proofs.YtfagldjhibdfhaaGreatDoor
open Go.RowKit
set_option linter.unusedVariables false
set_option linter.unusedSimpArgs false

end Go.Proofs.YtfagldjhibdfhaaGreatDoor
namespace Go.Proofs.YtfagldjhibdfhaaGreatDoor
open Go.RowKit
set_option linter.unusedVariables false
set_option linter.unusedSimpArgs false

end Go.Proofs.YtfagldjhibdfhaaGreatDoor
namespace Go.Proofs.YtfagldjhibdfhaaGreatDoor
open Go.RowKit
set_option linter.unusedVariables false
set_option linter.unusedSimpArgs false

def ZV (w : World) (b : Nat) : Prop := Blk w b 26 #[.int .i64 0, .int .i64 0, .string ⟨#[]⟩]
theorem ZV.new {W w' : World} (b : Nat) (hb : b = W.heap.size) (h : Ext (W.alloc (.cells #[.int .i64 0, .int .i64 0, .string ⟨#[]⟩] 26)) w') : ZV w' b := by
 subst hb
 exact (Blk.new W 26 #[.int .i64 0, .int .i64 0, .string ⟨#[]⟩]).ext h
theorem ZV.newd {W w' : World} (b : Nat) (hb : b = W.heap.size) (h : Ext (World.drew (W.alloc (.cells #[.int .i64 0, .int .i64 0, .string ⟨#[]⟩] 26))) w') : ZV w' b := by
 subst hb
 exact (Blk.new W 26 #[.int .i64 0, .int .i64 0, .string ⟨#[]⟩]).drew.ext h
theorem ZV.ext {w w' : World} {b : Nat} (h : ZV w b) (he : Ext w w') : ZV w' b := Blk.ext h he
theorem ZV.facts {w' : World} {b : Nat} (hB : ZV w' b) : b < w'.heap.size ∧ w'.cell? ⟨b, 0, none⟩ = some (.int .i64 0) ∧ w'.cell? ⟨b, 1, none⟩ = some (.int .i64 0) ∧ w'.cell? ⟨b, 2, none⟩ = some (.string ⟨#[]⟩) ∧
  w'.frozen? ⟨b, 0, none⟩ = false ∧ w'.frozen? ⟨b, 1, none⟩ = false ∧ w'.frozen? ⟨b, 2, none⟩ = false :=
 ⟨hB.lt, hB.cell 0, hB.cell 1, hB.cell 2, hB.frozen 0, hB.frozen 1, hB.frozen 2⟩
end Go.Proofs.YtfagldjhibdfhaaGreatDoor
namespace Go.Proofs.YtfagldjhibdfhaaGreatDoor
open Go.RowKit
set_option linter.unusedVariables false
set_option linter.unusedSimpArgs false

structure AppRuns (P : Program) (t ty : TypeId) (v x' : Value) (w : World) (v' : Value) (w' : World) : Prop where
 run : (Builtin.append_ #[t, t] ty #[v, x']).run P w = .ok v' w'
theorem wpList_append_runs {P : Program} {w : World} {ops : Array Oper} {rest : List Oper} {o : Oper} {a : Act} {Q : Exit → Act → World → Prop} (hgd : o.guard = none) (s x : Operand) (t : TypeId)
  (ho : o.op = .call { callee := .builtin .append, args := #[s, x], argTypes := #[t, t] }) (v x' v' : Value) (w' : World) (hs : a.eval s = v) (hx : a.eval x = x')
  (hrun : AppRuns P t o.type v x' w v' w') (h : wpList P ops Q rest (a.put o.dst v') w') : wpList P ops Q (o :: rest) a w :=
 wpList_append_run hgd s x t ho v x' v' w' hs hx hrun.run h
abbrev RowB (w : World) (B : Nat) (v : Value) (l : List Vl) : Prop := w.ownsRow B 26 3 v l.length (flat l)
theorem RowB.at0 {w : World} {B : Nat} {v : Value} {l : List Vl} (h : RowB w B v l) : RowAt w v l := by
 obtain ⟨hl, hrow⟩ := h
 refine ⟨hl, ?_⟩
 rcases hrow with h1 | ⟨g, cap, cur, e1, hb, h2⟩
 ·exact .inl h1
 ·exact .inr ⟨g, cap, cur, e1, Nat.zero_le _, h2⟩
structure Two (w : World) (B : Nat) (kv : Value) (ks : List Vl) (vv : Value) (vs : List Vl) : Prop where
 k : RowB w B kv ks
 v : RowB w B vv vs
 ne : ∀ x, kv.ownBlock = some x → vv.ownBlock ≠ some x
 base : B ≤ w.heap.size
theorem Two.nil (w : World) (B : Nat) (hB : B ≤ w.heap.size) : Two w B (.slice none 0 0) [] (.slice none 0 0) [] := ⟨World.ownsRow_nil _ _ _ _, World.ownsRow_nil _ _ _ _, fun x hx => by simp [Value.ownBlock] at hx, hB⟩
theorem Two.of_heap {w w' : World} {B : Nat} {kv vv : Value} {ks vs : List Vl} (h : Two w B kv ks vv vs) (hs : w.heap.size ≤ w'.heap.size) (he : ∀ k, B ≤ k → k < w.heap.size → w'.heap[k]? = w.heap[k]?) : Two w' B kv ks vv vs :=
 ⟨own_of_heap h.k he, own_of_heap h.v he, h.ne, Nat.le_trans h.base hs⟩
theorem Two.ext {w w' : World} {B : Nat} {kv vv : Value} {ks vs : List Vl} (h : Two w B kv ks vv vs) (he : Ext w w') : Two w' B kv ks vv vs := h.of_heap he.le fun k _ hk => he.block k hk
theorem Two.set {w : World} {B : Nat} {kv vv : Value} {ks vs : List Vl} (h : Two w B kv ks vv vs) {p : Addr} (hp : p.block < B) (u : Value) : Two (w.setCell p u) B kv ks vv vs :=
 h.of_heap (by simp [World.setCell]) fun k hk _ => Below.heap_setCell w p u k (by omega)
structure App (W : World) (B : Nat) (kv : Value) (ks : List Vl) (vv : Value) (vs : List Vl) (w' : World) (v' : Value) : Prop where
 two : Two w' B v' ks vv vs
 low : ∀ k, k < B → w'.heap[k]? = W.heap[k]?
 keep : W.grownBy w' kv.ownBlock
 size : W.heap.size ≤ w'.heap.size
theorem App.only {W w' : World} {B : Nat} {kv vv v' : Value} {ks vs : List Vl} (h : App W B kv ks vv vs w' v') (hk : ∀ x, kv.ownBlock = some x → B ≤ x) {a : World} {Y : Nat} (ho : Only Y a W) (hB : a.heap.size ≤ B) : Only Y a w' :=
 ⟨h.keep.os.trans ho.os, h.keep.tape.trans ho.tape, h.keep.output.trans ho.output, Nat.le_trans ho.size h.size, fun i hi hn => (h.low i (Nat.lt_of_lt_of_le hi hB)).trans (ho.block i hi hn)⟩
end Go.Proofs.YtfagldjhibdfhaaGreatDoor
namespace Go.Proofs.YtfagldjhibdfhaaGreatDoor
open Go.RowKit Go.Maps Go.Sort
set_option linter.unusedVariables false
set_option linter.unusedSimpArgs false

abbrev intOf' : Value → Int := Go.RowKit.intOf
theorem ints_row {w : World} {B : Nat} {v : Value} {l : List Int} (h : w.ownsRow B 2 1 v l.length (l.map encZ)) :
  ∃ q c, v = .slice q l.length c ∧ ∀ j (hj : j < l.length), ∃ b, q = some ⟨b, 0, none⟩ ∧ b < w.heap.size ∧ w.cell? ⟨b, j, none⟩ = some (.int .i64 l[j]) := by
 rcases h.2 with ⟨rfl, h0⟩ | ⟨g, cap, cur, rfl, hb, hc, h2, h3, h4, h5⟩
 ·exact ⟨none, 0, by rw [h0], fun j hj => by omega⟩
 ·refine ⟨_, _, rfl, fun j hj => ⟨g, rfl, (Array.getElem?_eq_some_iff.1 hc).1, ?_⟩⟩
  rw [cell_of_row w g _ cur _ (0, 0) hc]
  have := congrArg (fun l : List Value => l[j]?) h5
  simp only [List.getElem?_take, Nat.mul_one, if_pos hj, List.getElem?_map, List.getElem?_eq_getElem hj, Option.map_some] at this
  simpa [encZ] using this
theorem texts_row {w : World} {B : Nat} {v : Value} {l : List (List UInt8)} (h : w.ownsRow B 9 1 v l.length (l.map Go.Proofs.encStr)) :
  ∃ q c, v = .slice q l.length c ∧ ∀ j (hj : j < l.length), ∃ b, q = some ⟨b, 0, none⟩ ∧ B ≤ b ∧ ∃ hb : b < w.heap.size, w.cell? ⟨b, j, none⟩ = some (.string ⟨l[j].toArray⟩) := by
 rcases h.2 with ⟨rfl, h0⟩ | ⟨g, cap, cur, rfl, hb, hc, h2, h3, h4, h5⟩
 ·exact ⟨none, 0, by rw [h0], fun j hj => by omega⟩
 ·refine ⟨_, _, rfl, fun j hj => ⟨g, rfl, hb, (Array.getElem?_eq_some_iff.1 hc).1, ?_⟩⟩
  rw [cell_of_row w g _ cur _ (0, 0) hc]
  have := congrArg (fun l : List Value => l[j]?) h5
  simp only [List.getElem?_take, Nat.mul_one, if_pos hj, List.getElem?_map, List.getElem?_eq_getElem hj, Option.map_some] at this
  simpa [Go.Proofs.encStr] using this
theorem app_own (W : World) (ty : TypeId) (B b : Nat) (kv : Value) (ks : List Vl) (x : Vl) (hb : Blk W b 26 #[.int .i64 x.k, .int .i64 x.n, .string x.s]) (h : RowB W B kv ks) (hB : B ≤ W.heap.size) (hn : ks.length < 1000000) :
  ∃ v' w', AppRuns Tryz.prog 35 ty kv (.slice (some ⟨b, 0, none⟩) 1 1) W v' w' ∧ RowB w' B v' (ks ++ [x]) ∧ W.grownBy w' kv.ownBlock ∧ (v'.ownBlock = kv.ownBlock ∨ v'.ownBlock = some W.heap.size) := by
 obtain ⟨i0, hi, hz0, hz1, hz2⟩ := info_parts infoVal
 obtain ⟨v', w', h1, h2, h3, _, h4⟩ := run_append_own_at (P := Tryz.prog) (w := W) B 35 ty 26 i0 Vl.zero.v 3 32 Tryz.underlying35 hi hz0 hz1 hz2 rfl (by omega) kv ks.length (flat ks) h ⟨b, 0, none⟩ 1 1
  [.int .i64 x.k, .int .i64 x.n, .string x.s] rfl (fun j u hu => by
   have hadd : (⟨b, 0, none⟩ : Addr).add j = ⟨b, 0 + j, none⟩ := by unfold Addr.add; split <;> simp_all
   rw [hadd, hb.cell, Nat.zero_add]
   simpa using hu) (by intro u hu; simp at hu; rcases hu with rfl | rfl | rfl <;> rfl) (by unfold maxLen; omega) (by omega) hB
 exact ⟨v', w', ⟨h1⟩, by (show w'.ownsRow B 26 3 v' (ks ++ [x]).length (flat (ks ++ [x]))); rw [flat_snoc, List.length_append]; exact h2, h3, h4⟩
theorem RowB.lower {w : World} {B B' : Nat} {v : Value} {l : List Vl} (h : RowB w B v l) (hB : B' ≤ B) : RowB w B' v l := by
 obtain ⟨hl, hrow⟩ := h
 refine ⟨hl, ?_⟩
 rcases hrow with h1 | ⟨g, cap, cur, e1, hb, h2⟩
 ·exact .inl h1
 ·exact .inr ⟨g, cap, cur, e1, Nat.le_trans hB hb, h2⟩
set_option maxRecDepth 100000 in
theorem keys_why (g : Nat) (tv : Value) (rs : List (Nat × Nat)) (H : Hp) (t : Vl) (w : World) (h : HeapIn w g tv rs H) (hlen : H.tabs.length ≤ 9223372036854775807) (hn : ¬ (ofW H t).toList = []) :
  Calls Tryz.prog 28 #[.pointer (some ⟨g, 0, none⟩), t.v] w fun e w' => e = .returned (.tuple #[.slice none 0 0, .string (ofW H t)]) ∧ Ext w w' := by
 obtain ⟨x, y, hxy, ho⟩ := of_any g tv rs H t h.len hlen
 clear hxy
 have hn' : (ofW H t).toList.isEmpty = false := by simpa using hn
 have HI := Lib.hid h
 clear h
 generalize ofW H t = o at *
 go_enter Tryz.func28, Tryz.ntmps28
 go_wp2_with fail
 refine (ho _ (HI.out.alloc _)).mono ?_
 rintro e w1 ⟨rfl, e1⟩
 have k1 := ((Ext.refl w).alloc _).trans e1
 go_wp2_with fail
 go_ret2
 exact ⟨rfl, by repeat (first | exact k1 | refine Ext.alloc ?_ _ | refine Ext.setCell ?_ (by simp <;> omega) _)⟩
set_option maxRecDepth 100000 in
set_option maxHeartbeats 1000000 in
theorem keys_tab (g : Nat) (tv : Value) (rs : List (Nat × Nat)) (H : Hp) (t : Vl) (w : World) (h : HeapIn w g tv rs H) (hlen : H.tabs.length ≤ 9223372036854775807) (hn : ofW H t = sNone) :
  Calls Tryz.prog 28 #[.pointer (some ⟨g, 0, none⟩), t.v] w fun e w' => ∃ v, e = .returned (.tuple #[v, .string sNone]) ∧ RowB w' w.heap.size v (keysL (tabOf H t)) ∧ Ext w w' := by
 obtain ⟨x, y, hxy, ho⟩ := of_any g tv rs H t h.len hlen
 obtain ⟨r, hr, rfl, rfl⟩ := hxy hn
 obtain ⟨o1, o2, o3, o4, o5⟩ := ofW_none hn
 have HT := Lib.hid (tabOf_get o5)
 have HR := Lib.hid hr
 have hTb := tabOf_ok h.ok o5
 have hmost := hTb.most
 have hkl := keys_len hTb
 have HTb := Lib.hid hTb
 have hs0 := sNone_list
 have hs1 : sNone.toList.isEmpty = true := by rw [hs0]; rfl
 rw [hn] at ho
 have HI := Lib.hid h
 obtain ⟨T, hT⟩ : ∃ T, T = tabOf H t := ⟨_, rfl⟩
 rw [← hT] at HT HTb hmost hkl ⊢
 clear hxy hr hn hTb h o1 o2 o3 o4 o5 hT
 go_enter Tryz.func28, Tryz.ntmps28
 go_wp2_with fail
 refine (ho _ (HI.out.alloc _)).mono ?_
 rintro e w1 ⟨rfl, e1⟩
 have k1 := (((Ext.refl w).alloc _).trans e1).alloc (.cells #[.map (some r.1), .map (some r.2)] 79)
 obtain ⟨mi, mt, him, hmt, hrep⟩ := (HI.out.ext k1).tabs _ _ _ HR.out HT.out
 have hci := hrep.count
 obtain ⟨n1, D1, own1, perm1, size1⟩ := own_i him (fun x hx => by
  have hm : mget T (iK x.1) = some x.2 := by rw [hrep.ints]; exact mget_of_mem hrep.oi hx
  exact (HTb.out.key _ (mem_of_mget hm)).num) (by unfold maxLen; omega)
 have hK1 := (callsIn_wide (n := 5)).1 (mapsKeys_I (some r.1) (w1.alloc (.cells #[.map (some r.1), .map (some r.2)] 79)))
 have hS1 := (callsIn_wide (n := 5)).1 (sorted_keysI r.1 n1 D1 anyR _ own1 (by unfold maxLen; omega) (by omega))
 simp only [size_alloc] at hS1 hK1
 have z1 := e1.lt1
 have HP1 := Lib.hid (perm1.trans (hrep.keysi HTb.out))
 clear ho e1 him hmt hrep own1 perm1
 go_wp2_with fail
 refine hK1.mono ?_
 rintro e w2 ⟨rfl, rfl⟩
 go_wp2_with fail
 refine hS1.mono ?_
 rintro e w3 ⟨v1, ss, rfl, hS, hrow, hnil, hb⟩
 clear hK1 hS1
 have eS : (ss.mergeSort fun x y => decide (x ≤ y)) = (intsOf T).mergeSort fun x y => decide (x ≤ y) := mergeSort_of_perm_i (hS.trans HP1.out)
 have eL : ss.length = ((intsOf T).mergeSort fun x y => decide (x ≤ y)).length := by rw [← eS, (List.mergeSort_perm _ _).length_eq]
 rw [eS, eL] at hrow
 obtain ⟨LI, hLI⟩ : ∃ LI, LI = (intsOf T).mergeSort fun x y => decide (x ≤ y) := ⟨_, rfl⟩
 rw [← hLI] at hrow
 have hLl : LI.length ≤ 65536 := by rw [hLI, (List.mergeSort_perm _ _).length_eq]; omega
 have HLI := Lib.hid hLI
 obtain ⟨q1, c1, rfl, hcells⟩ := ints_row hrow
 have k3 : Ext w w3 := (k1.alloc (.cells #[.map (some r.1)] 76)).trans (by unfold Ext; rw [size_alloc, size_alloc]; exact hb)
 have HC := Lib.hid hcells
 have K1 := Lib.hid k1
 have K3 := Lib.hid k3
 have HB3 := Lib.hid hb
 have hw3 : w1.heap.size + 1 + 1 ≤ w3.heap.size := by have := hb.size; simpa [size_alloc] using this
 clear eS eL hS hnil hrow hcells hLI k1 k3 hb size1 hci
 go_wp2_with fail
 go_loopw [8, 27] (fun ov x wr => ∃ j : Nat, x = .int .i64 j ∧ j ≤ LI.length ∧ Hid (Ext w3 wr ∧ RowB wr w3.heap.size ov ((LI.take j).map iK))) (fun _ x _ => LI.length - (intOf' x).toNat)
 case atStart => exact ⟨0, rfl, Nat.zero_le _, Lib.hid ⟨Ext.refl _, World.ownsRow_nil _ _ _ _⟩⟩
 case round =>
  obtain ⟨j, rfl, hj, HW⟩ := hrel
  rcases Nat.lt_or_ge j LI.length with hlt | hge
  ·obtain ⟨b1, rfl, hb1, d1⟩ := HC.out j hlt
   have d1' : wr.cell? ⟨b1, j, none⟩ = some (.int .i64 LI[j]) := (HW.out.1.cells.1 _ _ hb1).trans d1
   have hd : decide ((j : Int) < (LI.length : Int)) = true := by rw [decide_eq_true_eq]; omega
   have hd' : decide (j < LI.length) = true := by rw [decide_eq_true_eq]; exact hlt
   have htk : LI.take (j + 1) = LI.take j ++ [LI[j]] := List.take_succ_eq_append_getElem hlt
   have HTK := Lib.hid htk
   clear htk d1
   obtain ⟨x, hx⟩ : ∃ x, LI[j] = x := ⟨_, rfl⟩
   rw [hx] at HTK d1'
   clear hx
   obtain ⟨qo, co, eo⟩ := HW.out.2.at0.slice
   rw [List.length_map, List.length_take, Nat.min_eq_left hj] at eo
   subst eo
   have hzr : w3.heap.size ≤ wr.heap.size := HW.out.1.le
   go_wp2_with fail
   refine (int_any x _).mono ?_
   rintro e w4 ⟨rfl, e4⟩
   have HR4 := Lib.hid (own_ext HW.out.2 e4)
   have k4 := HW.out.1.trans e4
   obtain ⟨v5, w5, r5, o5', g5, l5⟩ := app_own (w4.alloc (.cells #[.int .i64 2, .int .i64 x, .string ⟨#[]⟩] 26)) 35 w3.heap.size w4.heap.size _ _ (iK x) (Blk.new w4 _ _) (own_ext HR4.out ((Ext.refl w4).alloc _)) (by have := e4.le; rw [size_alloc]; omega) (by rw [List.length_map, List.length_take]; omega)
   have k5 : Ext w3 w5 := (k4.alloc _).grown g5 (fun z hz => (HR4.out.lt z hz).1)
   have HR5 := Lib.hid r5
   have HO5 := Lib.hid o5'
   have K5 := Lib.hid k5
   clear r5 o5' g5 l5 k4 k5 e4 HR4
   go_wp2_with (at_builtin; refine wpList_append_runs rfl _ _ 35 rfl _ _ _ _ rfl rfl HR5.out ?_)
   go_roundw
   case rel => exact ⟨j + 1, by go_num, by omega, Lib.hid ⟨K5.out, by rw [HTK.out, List.map_append]; exact HO5.out⟩⟩
   case measure => simp [intOf', Go.RowKit.intOf]; omega
  ·obtain rfl : j = LI.length := by omega
   have HO := Lib.hid (show RowB wr w3.heap.size _ (LI.map iK) by have := HW.out.2; rwa [List.take_length] at this)
   have HE := Lib.hid HW.out.1
   clear HW hge hj HC
   have hd : decide ((LI.length : Int) < (LI.length : Int)) = false := by simp
   obtain ⟨wo, rfl⟩ : ∃ wo : World, wo = wr := ⟨_, rfl⟩
   obtain ⟨qo, co, eo⟩ := HO.out.at0.slice
   rw [List.length_map] at eo
   subst eo
   have hzo : w3.heap.size ≤ wo.heap.size := HE.out.le
   have kw : Ext w wo := K3.out.trans HE.out
   have kB : Ext (w1.alloc (.cells #[.map (some r.1), .map (some r.2)] 79)) wo := (((Ext.refl _).alloc (.cells #[.map (some r.1)] 76)).trans (by unfold Ext; rw [size_alloc, size_alloc]; exact HB3.out)).trans HE.out
   have cb : wo.cell? ⟨w1.heap.size, 1, none⟩ = some (.map (some r.2)) := (kB.cells.1 _ _ (by rw [size_alloc]; omega)).trans (by go_simp)
   obtain ⟨mi, mt, him, hmt, hrep⟩ := (HI.out.ext kw).tabs _ _ _ HR.out HT.out
   have hci := hrep.count
   obtain ⟨n2, D2, own2, perm2, size2⟩ := own_t hmt (fun x hx => by
    have hm : mget T (tK x.1) = some x.2 := by rw [hrep.texts]; exact mget_of_mem hrep.ot hx
    have hkk := (HTb.out.key _ (mem_of_mget hm))
    have hc := hkk.ck
    unfold Vl.ck checkB tK at hc
    simp at hc
    unfold maxLen
    omega) (by unfold maxLen; omega)
   have hK2 := (callsIn_wide (n := 5)).1 (mapsKeys_T (some r.2) wo)
   have hS2 := (callsIn_wide (n := 5)).1 (sorted_keysT r.2 n2 D2 anyR _ own2 (by unfold maxLen; omega) (by omega))
   simp only [size_alloc] at hS2 hK2
   have HP2 := Lib.hid (perm2.trans (hrep.keyst HTb.out))
   have KW := Lib.hid kw
   clear him hmt hrep own2 perm2 kB kw
   go_wp2_with fail
   refine hK2.mono ?_
   rintro e w4 ⟨rfl, rfl⟩
   go_wp2_with fail
   refine hS2.mono ?_
   rintro e w5 ⟨v2, ss2, rfl, hS, hrow, hnil, hb⟩
   clear hK2 hS2
   have eS : (ss2.mergeSort fun x y => decide (x ≤ y)) = (textsOf T).mergeSort fun x y => decide (x ≤ y) := mergeSort_of_perm (hS.trans HP2.out)
   have eL : ss2.length = ((textsOf T).mergeSort fun x y => decide (x ≤ y)).length := by rw [← eS, (List.mergeSort_perm _ _).length_eq]
   rw [eS, eL] at hrow
   obtain ⟨LT, hLT⟩ : ∃ LT, LT = (textsOf T).mergeSort fun x y => decide (x ≤ y) := ⟨_, rfl⟩
   rw [← hLT] at hrow
   have hLl2 : LT.length ≤ 65536 := by rw [hLT, (List.mergeSort_perm _ _).length_eq]; omega
   have hLL : LI.length + LT.length ≤ 65536 := by rw [HLI.out, hLT, (List.mergeSort_perm _ _).length_eq, (List.mergeSort_perm _ _).length_eq]; omega
   have HLT := Lib.hid hLT
   obtain ⟨q2, c2, rfl, hcells⟩ := texts_row hrow
   have k5 : Ext wo w5 := ((Ext.refl wo).alloc (.cells #[.map (some r.2)] 77)).trans (by unfold Ext; rw [size_alloc]; exact hb)
   have hout := own_ext HO.out k5
   have hob : ∀ z, (Value.slice qo LI.length co).ownBlock = some z → z < wo.heap.size := fun z hz => (HO.out.lt z hz).2
   have HC := Lib.hid hcells
   have K5 := Lib.hid k5
   have HO5 := Lib.hid hout
   have HOB := Lib.hid hob
   have hz5 : wo.heap.size ≤ w5.heap.size := k5.le
   clear eS eL hS hnil hrow hcells hLT k5 hb size2 hci hout hob HO
   go_wp2_with fail
   go_loopw [8, 42] (fun ov x wr => ∃ j : Nat, x = .int .i64 j ∧ j ≤ LT.length ∧ Hid (Ext w3 wr ∧ RowB wr w3.heap.size ov (LI.map iK ++ (LT.take j).map fun l => tK ⟨l.toArray⟩) ∧ (∀ b, q2 = some ⟨b, 0, none⟩ → wo.heap.size ≤ b → wr.heap[b]? = w5.heap[b]? ∧ ov.ownBlock ≠ some b))) (fun _ x _ => LT.length - (intOf' x).toNat)
   case atStart => exact ⟨0, rfl, Nat.zero_le _, Lib.hid ⟨HE.out.trans K5.out, by (rw [List.take_zero, List.map_nil, List.append_nil]; exact HO5.out), fun b hb hwo => ⟨rfl, fun e => by have := HOB.out b e; omega⟩⟩⟩
   case round =>
    obtain ⟨j, rfl, hj, HW⟩ := hrel
    rcases Nat.lt_or_ge j LT.length with hlt | hge
    ·obtain ⟨b2, rfl, hwb, hb2, d1⟩ := HC.out j hlt
     obtain ⟨t1, t2⟩ := HW.out.2.2 b2 rfl (by omega)
     have d1' : wr.cell? ⟨b2, j, none⟩ = some (.string ⟨LT[j].toArray⟩) := (World.cell?_of_block t1).trans d1
     have hd : decide ((j : Int) < (LT.length : Int)) = true := by rw [decide_eq_true_eq]; omega
     have hd' : decide (j < LT.length) = true := by rw [decide_eq_true_eq]; exact hlt
     have htk : LT.take (j + 1) = LT.take j ++ [LT[j]] := List.take_succ_eq_append_getElem hlt
     have HTK := Lib.hid htk
     have T1 := Lib.hid t1
     have T2 := Lib.hid t2
     clear htk d1 t1 t2
     obtain ⟨x, hx⟩ : ∃ x, LT[j] = x := ⟨_, rfl⟩
     rw [hx] at HTK d1'
     clear hx
     obtain ⟨qn, cn, en⟩ := HW.out.2.1.at0.slice
     rw [List.length_append, List.length_map, List.length_map, List.length_take, Nat.min_eq_left hj] at en
     subst en
     have hbr : b2 < wr.heap.size := lt_of_block (T1.out.trans (Array.getElem?_eq_getElem hb2))
     have hzr : w3.heap.size ≤ wr.heap.size := HW.out.1.le
     go_wp2_with fail
     refine (text_any _ _).mono ?_
     rintro e w6 ⟨rfl, e6⟩
     have HR6 := Lib.hid (own_ext HW.out.2.1 e6)
     have k6 := HW.out.1.trans e6
     obtain ⟨v7, w7, r7, o7, g7, l7⟩ := app_own (w6.alloc (.cells #[.int .i64 3, .int .i64 0, .string ⟨x.toArray⟩] 26)) 35 w3.heap.size w6.heap.size _ _ (tK ⟨x.toArray⟩) (Blk.new w6 _ _) (own_ext HR6.out ((Ext.refl w6).alloc _)) (by have := e6.le; rw [size_alloc]; omega) (by rw [List.length_append, List.length_map, List.length_map, List.length_take]; omega)
     have k7 : Ext w3 w7 := (k6.alloc _).grown g7 (fun z hz => (HR6.out.lt z hz).1)
     have h7 : w7.heap[b2]? = w5.heap[b2]? := (g7.block b2 (by rw [size_alloc]; have := e6.le; omega) (fun e => T2.out e.symm)).trans ((((Ext.refl w6).alloc _).block b2 (by have := e6.le; omega)).trans ((e6.block b2 hbr).trans T1.out))
     have h8 : v7.ownBlock ≠ some b2 := fun e => by
      rcases l7 with l7 | l7
      ·rw [l7] at e; exact T2.out e
      ·rw [l7, size_alloc] at e
       have := Option.some.inj e
       have := e6.le
       omega
     have HR7 := Lib.hid r7
     have HO7 := Lib.hid o7
     have K7 := Lib.hid (And.intro k7 (And.intro h7 h8))
     clear r7 o7 g7 l7 k6 k7 e6 HR6 h7 h8
     go_wp2_with (at_builtin; refine wpList_append_runs rfl _ _ 35 rfl _ _ _ _ rfl rfl HR7.out ?_)
     go_roundw
     case rel => exact ⟨j + 1, by go_num, by omega, Lib.hid ⟨K7.out.1, by rw [HTK.out, List.map_append, ← List.append_assoc]; exact HO7.out, fun b hb hwo => by
      have eb : b2 = b := by injection hb with e; injection e
      subst eb
      exact K7.out.2⟩⟩
     case measure => simp [intOf', Go.RowKit.intOf]; omega
    ·obtain rfl : j = LT.length := by omega
     have hd : decide ((LT.length : Int) < (LT.length : Int)) = false := by simp
     have HF := Lib.hid (show RowB wr w3.heap.size u8 (LI.map iK ++ LT.map fun l => tK ⟨l.toArray⟩) by have := HW.out.2.1; rwa [List.take_length] at this)
     have hw33 : w.heap.size ≤ w3.heap.size := K3.out.le
     go_wp2_with fail
     go_ret2
     exact ⟨u8, rfl, by (unfold keysL; rw [← HLI.out, ← HLT.out]; exact HF.out.lower hw33), K3.out.trans HW.out.1⟩
theorem keys_any (g : Nat) (tv : Value) (rs : List (Nat × Nat)) (H : Hp) (t : Vl) (w : World) (h : HeapIn w g tv rs H) (hlen : H.tabs.length ≤ 9223372036854775807) :
  Calls Tryz.prog 28 #[.pointer (some ⟨g, 0, none⟩), t.v] w fun e w' => ∃ v, e = .returned (.tuple #[v, .string (ofW H t)]) ∧ RowB w' w.heap.size v (keysV H t) ∧ Ext w w' := by
 unfold keysV
 by_cases hn : ofW H t = sNone
 ·rw [if_pos hn, hn]
  exact keys_tab g tv rs H t w h hlen hn
 ·rw [if_neg hn]
  exact (keys_why g tv rs H t w h hlen (fun hl => hn (toList_nil hl))).mono fun e w' ⟨h1, h2⟩ => ⟨_, h1, World.ownsRow_nil _ _ _ _, h2⟩
end Go.Proofs.YtfagldjhibdfhaaGreatDoor
namespace Go.Proofs.YtfagldjhibdfhaaGreatDoor
open Go.RowKit Go.Maps Go.Sort
set_option linter.unusedVariables false
set_option linter.unusedSimpArgs false

end Go.Proofs.YtfagldjhibdfhaaGreatDoor
