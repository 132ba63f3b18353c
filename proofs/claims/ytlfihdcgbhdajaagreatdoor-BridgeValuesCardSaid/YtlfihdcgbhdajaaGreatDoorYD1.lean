/- How the document's heap lies; two values are the same. The document's heap: the number of a value's table; what is under a key. What is under a key, by the document's heap. How long a value is, by the document's heap. Two rows of values that are built side by side. -/
import Derived.Test.YtlfihdcgbhdajaaGreatDoorYB3
import Derived.Laws.StructEq
import Derived.LoopTactic
import Derived.Deep.RegionHeld3
import Derived.Laws.OwnMore
import Derived.Maps.AppendAt
namespace Go.Proofs.YtlfihdcgbhdajaaGreatDoor
open Go.RowKit
set_option linter.unusedVariables false
set_option linter.unusedSimpArgs false

theorem infoVal : (Tryz.prog.info? 34).map (fun i => (i.zero, i.size, i.bytes)) = some (some Vl.zero.v, 3, 32) := by kernel_rfl
abbrev vcells (x : Vl) : List Value := [.int .i64 x.k, .int .i64 x.n, .string x.s]
abbrev flat (l : List Vl) : List Value := l.flatMap vcells
theorem flat_len (l : List Vl) : (flat l).length = l.length * 3 := by
 induction l with
 | nil => rfl
 | cons x l ih => simp only [flat, List.flatMap_cons, List.length_append, List.length_cons, List.length_nil] at ih ⊢; omega
theorem flat_snoc (l : List Vl) (x : Vl) : flat (l ++ [x]) = flat l ++ vcells x := by simp [flat]
theorem flat_get : ∀ (l : List Vl) (i : Nat) (x : Vl), l[i]? = some x → (flat l)[i * 3]? = some (.int .i64 x.k) ∧ (flat l)[i * 3 + 1]? = some (.int .i64 x.n) ∧ (flat l)[i * 3 + 2]? = some (.string x.s)
 | [], i, x, h => by simp at h
 | y :: l, 0, x, h => by simp at h; subst h; exact ⟨rfl, rfl, rfl⟩
 | y :: l, i + 1, x, h => by
  have := flat_get l i x (by simpa using h)
  have e : (i + 1) * 3 = i * 3 + 1 + 1 + 1 := by omega
  rw [e]
  simpa [flat] using this
def RowAt (w : World) (v : Value) (l : List Vl) : Prop := w.ownsRow 0 34 3 v l.length (flat l)
theorem RowAt.nil (w : World) : RowAt w (.slice none 0 0) [] := World.ownsRow_nil _ _ _ _
theorem RowAt.ext {w w' : World} {v : Value} {l : List Vl} (h : RowAt w v l) (he : Ext w w') : RowAt w' v l := own_ext h he
theorem RowAt.slice {w : World} {v : Value} {l : List Vl} (h : RowAt w v l) : ∃ q cap, v = .slice q l.length cap := by
 rcases h.2 with ⟨rfl, h0⟩ | ⟨g, cap, cur, rfl, _⟩
 ·exact ⟨none, 0, by rw [h0]⟩
 ·exact ⟨_, _, rfl⟩
theorem RowAt.lt {w : World} {v : Value} {l : List Vl} (h : RowAt w v l) : ∀ k, v.ownBlock = some k → k < w.heap.size ∧ ∃ cs, w.heap[k]? = some (.cells cs 34 (0, 0)) := by
 intro k hk
 rcases h.2 with ⟨rfl, _⟩ | ⟨g, cap, cur, rfl, hb, hc, _⟩
 ·simp [Value.ownBlock] at hk
 ·obtain rfl := Option.some.inj hk
  exact ⟨(Array.getElem?_eq_some_iff.1 hc).1, _, hc⟩
theorem RowAt.of_heap {w w' : World} {v : Value} {l : List Vl} (h : RowAt w v l) (he : ∀ k, v.ownBlock = some k → w'.heap[k]? = w.heap[k]?) : RowAt w' v l := by
 obtain ⟨hl, hrow⟩ := h
 refine ⟨hl, ?_⟩
 rcases hrow with h1 | ⟨gb, cap, cur, e1, hb, hc, h2⟩
 ·exact .inl h1
 ·exact .inr ⟨gb, cap, cur, e1, hb, (he gb (by rw [e1]; rfl)).trans hc, h2⟩
theorem RowAt.cells {w : World} {v : Value} {l : List Vl} (h : RowAt w v l) (i : Nat) (x : Vl) (hx : l[i]? = some x) :
  ∃ b cap, v = .slice (some ⟨b, 0, none⟩) l.length cap ∧ b < w.heap.size ∧ w.cell? ⟨b, i * 3, none⟩ = some (.int .i64 x.k) ∧ w.cell? ⟨b, i * 3 + 1, none⟩ = some (.int .i64 x.n) ∧ w.cell? ⟨b, i * 3 + 2, none⟩ = some (.string x.s) := by
 obtain ⟨hl, hrow⟩ := h
 have hi : i < l.length := (List.getElem?_eq_some_iff.1 hx).1
 rcases hrow with ⟨h1, h2⟩ | ⟨gb, cap, cur, e1, hb, hc, h2, h3, h4, h5⟩
 ·omega
 ·obtain ⟨g1, g2, g3⟩ := flat_get l i x hx
  rw [← h5, List.getElem?_take] at g1 g2 g3
  rw [if_pos (by omega)] at g1 g2 g3
  refine ⟨gb, cap, e1, (Array.getElem?_eq_some_iff.1 hc).1, ?_, ?_, ?_⟩
  ·rw [cell_of_row w gb _ cur _ (0, 0) hc]; simpa using g1
  ·rw [cell_of_row w gb _ cur _ (0, 0) hc]; simpa using g2
  ·rw [cell_of_row w gb _ cur _ (0, 0) hc]; simpa using g3
def RTbAt (w : World) (r : Value × Value) (T : Tb) : Prop := ∃ L : Tb, TRow L T ∧ RowAt w r.1 (L.map (·.1)) ∧ RowAt w r.2 (L.map (·.2))
abbrev rrowOf (rows : List (Value × Value)) : List Value := rows.flatMap fun r => [r.1, r.2]
structure RHeapIn (w : World) (g : Nat) (tv : Value) (H : Hp) : Prop where
 head : RB w g tv H.cells H.spent
 rows : ∃ rows : List (Value × Value), w.ownsRow 0 91 2 tv H.tabs.length (rrowOf rows) ∧ rows.length = H.tabs.length ∧
  ∀ (i : Nat) (r : Value × Value) (T : Tb), rows[i]? = some r → H.tabs[i]? = some T → RTbAt w r T
 ok : HOk H
def RFoot (g : Nat) (tv : Value) (k : Nat) : Prop := k = g ∨ tv.ownBlock = some k
section
variable {w w' : World} {g g' : Nat} {tv tv' : Value} {rs : List (Nat × Nat)} {H R : Hp}
theorem RHeapIn.sort (h : RHeapIn w g tv R) {x : Nat} (hx : RFoot g tv x) : (∃ cs, w.heap[x]? = some (.cells cs 41 (0, 0))) ∨ (∃ cs, w.heap[x]? = some (.cells cs 91 (0, 0))) := by
 rcases hx with rfl | hx
 ·exact .inl ⟨_, h.head⟩
 ·obtain ⟨rows, ⟨hl, hrow⟩, _⟩ := h.rows
  rcases hrow with ⟨h1, _⟩ | ⟨gb, cap, cur, e1, hb, hc, h2⟩
  ·rw [h1] at hx; simp [Value.ownBlock] at hx
  ·rw [e1] at hx
   obtain rfl := Option.some.inj hx
   exact .inr ⟨_, hc⟩
theorem RHeapIn.low (h : RHeapIn w g tv R) {x : Nat} (hx : RFoot g tv x) : x < w.heap.size := by
 have : ∃ o, w.heap[x]? = some o := by
  rcases h.sort hx with ⟨cs, hc⟩ | ⟨cs, hc⟩ <;> exact ⟨_, hc⟩
 obtain ⟨o, ho⟩ := this
 exact (Array.getElem?_eq_some_iff.1 ho).1
theorem RHeapIn.of_heap (h : RHeapIn w g tv R) (he : ∀ (k : Nat) (cs : Array Value) (t : TypeId), w.heap[k]? = some (.cells cs t (0, 0)) → (t = 41 ∨ t = 91 ∨ t = 34) → w'.heap[k]? = w.heap[k]?) : RHeapIn w' g tv R := by
 obtain ⟨rows, ⟨hl, hrow⟩, h2, h3⟩ := h.rows
 have rowk : ∀ (v : Value) (l : List Vl), RowAt w v l → RowAt w' v l := fun v l hr => hr.of_heap fun k hk => by
  obtain ⟨_, cs, hc⟩ := hr.lt k hk
  exact he k cs _ hc (.inr (.inr rfl))
 refine ⟨(he g _ _ h.head (.inl rfl)).trans h.head, ⟨rows, ⟨hl, ?_⟩, h2, fun i r T hr hT => ?_⟩, h.ok⟩
 ·rcases hrow with h1 | ⟨gb, cap, cur, e1, hb, hc, hq⟩
  ·exact .inl h1
  ·exact .inr ⟨gb, cap, cur, e1, hb, (he gb _ _ hc (.inr (.inl rfl))).trans hc, hq⟩
 ·obtain ⟨L, l1, l2, l3⟩ := h3 i r T hr hT
  exact ⟨L, l1, rowk _ _ l2, rowk _ _ l3⟩
theorem lt_of_block {w : World} {k : Nat} {o : Obj} (h : w.heap[k]? = some o) : k < w.heap.size := (Array.getElem?_eq_some_iff.1 h).1
theorem RHeapIn.ext (h : RHeapIn w g tv R) (he : Ext w w') : RHeapIn w' g tv R := h.of_heap fun k cs t hc _ => he.block k (lt_of_block hc)
theorem RHeapIn.other (h : RHeapIn w g' tv' R) (hp : HeapIn w g tv rs H) (ht : Touch (Foot g tv rs) w w') : RHeapIn w' g' tv' R :=
 h.of_heap fun k cs t hc hty => ht.block k (lt_of_block hc) fun hf => by
  rcases hp.sort hf with ⟨cs', hc'⟩ | ⟨cs', hc'⟩ | ⟨es, c, hc'⟩
  ·rw [hc] at hc'
   injection Option.some.inj hc' with _ e
   subst e
   rcases hty with e | e | e <;> exact absurd e (by decide)
  ·rw [hc] at hc'
   injection Option.some.inj hc' with _ e
   subst e
   rcases hty with e | e | e <;> exact absurd e (by decide)
  ·rw [hc] at hc'
   cases Option.some.inj hc'
theorem HeapIn.other (h : HeapIn w g tv rs H) (hp : RHeapIn w g' tv' R) (ht : Touch (RFoot g' tv') w w') : HeapIn w' g tv rs H :=
 h.touch ht fun x hx hf => by
  rcases h.sort hx with ⟨cs, hc⟩ | ⟨cs, hc⟩ | ⟨es, c, hc⟩
  ·rcases hp.sort hf with ⟨cs', hc'⟩ | ⟨cs', hc'⟩ <;> (rw [hc] at hc'; injection Option.some.inj hc' with _ e; exact absurd e (by decide))
  ·rcases hp.sort hf with ⟨cs', hc'⟩ | ⟨cs', hc'⟩ <;> (rw [hc] at hc'; injection Option.some.inj hc' with _ e; exact absurd e (by decide))
  ·rcases hp.sort hf with ⟨cs', hc'⟩ | ⟨cs', hc'⟩ <;> (rw [hc] at hc'; cases Option.some.inj hc')
end
theorem vl_eqlIn (x y : Vl) (w : World) : (Op.equalIn 10000 34 x.v y.v).run Tryz.prog w = .ok (decide (x = y)) w := by
 have u3 := Tryz.underlying2
 have a3 := Tryz.isAgg2
 have z3 := Tryz.sizeOf2
 have u4 := Tryz.underlying32
 have a4 := Tryz.isAgg32
 have z4 := Tryz.sizeOf32
 have u5 := Tryz.underlying9
 have a5 := Tryz.isAgg9
 have z5 := Tryz.sizeOf9
 rw [show (10000 : Nat) = 9999 + 1 from rfl, run_equalIn_struct (P := Tryz.prog) w 9999 34 _ _ (by kernel_rfl) (by kernel_rfl)]
 simp only [Program.fieldsOf, Tryz.underlying34]
 go_simp
 obtain ⟨x0, x1, x2⟩ := x
 obtain ⟨y0, y1, y2⟩ := y
 show (if x0 = y0 then if x1 = y1 then if x2.toList = y2.toList then Result.ok true w else Result.ok false w else Result.ok false w else Result.ok false w) = _
 by_cases h1 : x0 = y0
 ·by_cases h2 : x1 = y1
  ·by_cases h3 : x2.toList = y2.toList
   ·have e : x2 = y2 := by
     rw [Lib.toList_data, Lib.toList_data] at h3
     exact ByteArray.ext (Array.ext' h3)
    subst h1 h2 e
    simp
   ·rw [if_pos h1, if_pos h2, if_neg h3, decide_eq_false (fun e => h3 (congrArg (fun v : Vl => v.s.toList) e))]
  ·rw [if_pos h1, if_neg h2, decide_eq_false (fun e => h2 (congrArg Vl.n e))]
 ·rw [if_neg h1, decide_eq_false (fun e => h1 (congrArg Vl.k e))]
theorem vl_guard (o : BinOp) (ho : o = .eql ∨ o = .neq) (a b : Operand) (x y : Vl) (w : World) : (eqGuard o 34 a b x.v y.v).run Tryz.prog w = .ok () w := by
 rcases ho with rfl | rfl <;> exact run_eqGuard_agg w _ _ _ _ _ _ (by kernel_rfl)
theorem vl_eql (x y : Vl) (w : World) : (binOp .eql 34 x.v y.v).run Tryz.prog w = .ok (.bool (decide (x = y))) w := by
 rw [run_eql_struct, vl_eqlIn]
 rfl
theorem vl_neq (x y : Vl) (w : World) : (binOp .neq 34 x.v y.v).run Tryz.prog w = .ok (.bool (!decide (x = y))) w := by
 rw [run_neq_struct, vl_eqlIn]
 rfl
end Go.Proofs.YtlfihdcgbhdajaaGreatDoor
namespace Go.Proofs.YtlfihdcgbhdajaaGreatDoor
open Go.RowKit
set_option linter.unusedVariables false
set_option linter.unusedSimpArgs false

theorem rcheckV (v : Vl) (b : Bool) (hb : v.ck = b) (w : World) : Calls Tryz.prog 47 #[v.v] w fun e w' => e = .returned (.bool b) ∧ Ext w w' := by
 subst hb; exact rcheck_any v.k v.n v.s w
def rofN (H : Hp) (t : Vl) : Int := if ofW H t = sNone then t.n else 0
theorem rrow_form {w : World} {tv : Value} {n : Nat} {xs : List Value} (h : w.ownsRow 0 91 2 tv n xs) : ∃ q cap, tv = .slice q n cap := by
 rcases h.2 with ⟨rfl, h0⟩ | ⟨g, cap, cur, rfl, _⟩
 ·exact ⟨none, 0, by rw [h0]⟩
 ·exact ⟨_, _, rfl⟩
set_option maxRecDepth 100000 in
theorem rof_ck (p : Value) (t : Vl) (w : World) (hc : t.ck = false) : Calls Tryz.prog 44 #[p, t.v] w fun e w' => e = .returned (.tuple #[.int .i64 0, .string sType]) ∧ Ext w w' := by
 obtain ⟨k, n, s⟩ := t
 go_enter Tryz.func44, Tryz.ntmps44
 go_wp2_with fail
 refine (rcheckV _ false hc _).mono ?_
 rintro e w1 ⟨rfl, e1⟩
 have k1 := ((Ext.refl w).alloc _).trans e1
 have z1 := e1.lt1
 obtain ⟨p1, p2⟩ := e1.cells
 go_wp2_with fail
 go_ret2
 exact ⟨rfl, by repeat (first | exact k1 | refine Ext.alloc ?_ _ | refine Ext.setCell ?_ (by simp <;> omega) _)⟩
set_option maxRecDepth 100000 in
theorem rof_kind (p : Value) (t : Vl) (w : World) (hc : t.ck = true) (h4 : ¬ t.k = 4) : Calls Tryz.prog 44 #[p, t.v] w fun e w' => e = .returned (.tuple #[.int .i64 0, .string sType]) ∧ Ext w w' := by
 have h4' : (t.k != 4) = true := by simpa using h4
 clear h4
 obtain ⟨k, n, s⟩ := t
 go_enter Tryz.func44, Tryz.ntmps44
 go_wp2_with fail
 refine (rcheckV _ true hc _).mono ?_
 rintro e w1 ⟨rfl, e1⟩
 have k1 := ((Ext.refl w).alloc _).trans e1
 have z1 := e1.lt1
 obtain ⟨p1, p2⟩ := e1.cells
 go_wp2_with fail
 go_ret2
 exact ⟨rfl, by repeat (first | exact k1 | refine Ext.alloc ?_ _ | refine Ext.setCell ?_ (by simp <;> omega) _)⟩
set_option maxRecDepth 100000 in
theorem rof_key (g : Nat) (tv : Value) (H : Hp) (t : Vl) (w : World) (h : RHeapIn w g tv H) (hlen : H.tabs.length ≤ 9223372036854775807) (hc : t.ck = true) (h4 : t.k = 4) (hn : (H.tabs.length : Int) ≤ t.n) :
  Calls Tryz.prog 44 #[.pointer (some ⟨g, 0, none⟩), t.v] w fun e w' => e = .returned (.tuple #[.int .i64 0, .string sKey]) ∧ Ext w w' := by
 obtain ⟨rows, hrow, _, _⟩ := h.rows
 obtain ⟨q, cap, e0⟩ := rrow_form hrow
 have hg := h.head.lt
 have c0 : w.cell? ⟨g, 0, none⟩ = some tv := h.head.cell 0
 rw [e0] at c0
 obtain ⟨k, n, s⟩ := t
 simp only at h4 hn
 subst h4
 clear hrow e0 h
 have hd : decide ((H.tabs.length : Int) ≤ n) = true := by simp; omega
 clear hn
 go_enter Tryz.func44, Tryz.ntmps44
 go_wp2_with fail
 refine (rcheckV _ true hc _).mono ?_
 rintro e w1 ⟨rfl, e1⟩
 have k1 := ((Ext.refl w).alloc _).trans e1
 have z1 := e1.lt1
 obtain ⟨p1, p2⟩ := e1.cells
 go_wp2_with fail
 have y0 : w1.cell? ⟨g, 0, none⟩ = some (.slice q H.tabs.length cap) := (k1.cells.1 g 0 hg).trans c0
 have y1 : w1.cell? ⟨w.heap.size, 1, none⟩ = some (.int .i64 n) := by rw [p1 _ _ (by simp)]; simp
 clear p1 p2 c0
 go_quiet (fail)
 clear hd
 have k2 := k1.drewN nq
 go_wp2_with fail
 go_ret2
 exact ⟨rfl, by repeat (first | exact k1 | exact k2 | refine Ext.alloc ?_ _ | refine Ext.setCell ?_ (by simp <;> omega) _)⟩
set_option maxRecDepth 100000 in
theorem rof_ok (g : Nat) (tv : Value) (H : Hp) (t : Vl) (w : World) (h : RHeapIn w g tv H) (hlen : H.tabs.length ≤ 9223372036854775807) (hc : t.ck = true) (h4 : t.k = 4) (hn : t.n < (H.tabs.length : Int)) :
  Calls Tryz.prog 44 #[.pointer (some ⟨g, 0, none⟩), t.v] w fun e w' => e = .returned (.tuple #[.int .i64 t.n, .string sNone]) ∧ Ext w w' := by
 obtain ⟨rows, hrow, _, _⟩ := h.rows
 obtain ⟨q, cap, e0⟩ := rrow_form hrow
 have hg := h.head.lt
 have c0 : w.cell? ⟨g, 0, none⟩ = some tv := h.head.cell 0
 rw [e0] at c0
 obtain ⟨k, n, s⟩ := t
 simp only at h4 hn
 subst h4
 clear hrow e0 h
 have hd : decide ((H.tabs.length : Int) ≤ n) = false := by simp; omega
 clear hn
 go_enter Tryz.func44, Tryz.ntmps44
 go_wp2_with fail
 refine (rcheckV _ true hc _).mono ?_
 rintro e w1 ⟨rfl, e1⟩
 have k1 := ((Ext.refl w).alloc _).trans e1
 have z1 := e1.lt1
 obtain ⟨p1, p2⟩ := e1.cells
 go_wp2_with fail
 have y0 : w1.cell? ⟨g, 0, none⟩ = some (.slice q H.tabs.length cap) := (k1.cells.1 g 0 hg).trans c0
 have y1 : w1.cell? ⟨w.heap.size, 1, none⟩ = some (.int .i64 n) := by rw [p1 _ _ (by simp)]; simp
 clear p1 p2 c0
 go_quiet (fail)
 clear hd
 have k2 := k1.drewN nq
 go_wp2_with fail
 go_ret2
 exact ⟨rfl, by repeat (first | exact k1 | exact k2 | refine Ext.alloc ?_ _ | refine Ext.setCell ?_ (by simp <;> omega) _)⟩
theorem rof_any (g : Nat) (tv : Value) (H : Hp) (t : Vl) (w : World) (h : RHeapIn w g tv H) (hlen : H.tabs.length ≤ 9223372036854775807) :
  Calls Tryz.prog 44 #[.pointer (some ⟨g, 0, none⟩), t.v] w fun e w' => e = .returned (.tuple #[.int .i64 (rofN H t), .string (ofW H t)]) ∧ Ext w w' := by
 cases hc : t.ck with
 | false =>
  have e : ofW H t = sType := by unfold ofW; rw [hc]; rfl
  have e2 : rofN H t = 0 := by unfold rofN; rw [if_neg (by rw [e]; exact sNone_ne.2.1)]
  rw [e, e2]
  exact rof_ck _ t w hc
 | true =>
  by_cases h4 : t.k = 4
  ·by_cases hn : t.n < (H.tabs.length : Int)
   ·have e : ofW H t = sNone := by unfold ofW; rw [if_pos (by simp [hc, h4]), if_pos hn]
    have e2 : rofN H t = t.n := by unfold rofN; rw [if_pos e]
    rw [e, e2]
    exact rof_ok g tv H t w h hlen hc h4 hn
   ·have e : ofW H t = sKey := by unfold ofW; rw [if_pos (by simp [hc, h4]), if_neg hn]
    have e2 : rofN H t = 0 := by unfold rofN; rw [if_neg (by rw [e]; exact sNone_ne.1)]
    rw [e, e2]
    exact rof_key g tv H t w h hlen hc h4 (by omega)
  ·have e : ofW H t = sType := by unfold ofW; rw [if_neg (by simp [h4])]
   have e2 : rofN H t = 0 := by unfold rofN; rw [if_neg (by rw [e]; exact sNone_ne.2.1)]
   rw [e, e2]
   exact rof_kind _ t w hc h4
end Go.Proofs.YtlfihdcgbhdajaaGreatDoor
namespace Go.Proofs.YtlfihdcgbhdajaaGreatDoor
open Go.RowKit
set_option linter.unusedVariables false
set_option linter.unusedSimpArgs false

set_option maxRecDepth 100000 in
theorem rget_type (g : Nat) (tv : Value) (H : Hp) (t k : Vl) (w : World) (h : RHeapIn w g tv H) (hlen : H.tabs.length ≤ 9223372036854775807) (hk : k.ck = false) :
  Calls Tryz.prog 15 #[.pointer (some ⟨g, 0, none⟩), t.v, k.v] w fun e w' => e = .returned (.tuple #[Vl.zero.v, .string sType]) ∧ Ext w w' := by
 have ho := fun W hW => rof_any g tv H t W hW hlen
 have HI := Lib.hid h
 clear h
 go_enter Tryz.func15, Tryz.ntmps15
 go_wp2_with fail
 refine (ho _ (((HI.out.ext ((((Ext.refl w).alloc _).alloc _).alloc _))))).mono ?_
 rintro e w1 ⟨rfl, e1⟩
 have k1 := ((((Ext.refl w).alloc _).alloc _).alloc _).trans e1
 obtain ⟨z1, z2, z3⟩ := e1.lt3
 obtain ⟨p1, p2⟩ := e1.cells
 clear ho
 go_wp2_with fail
 refine (rcheckV _ false hk _).mono ?_
 rintro e w2 ⟨rfl, e2⟩
 have k2 := k1.trans e2
 have y1 : w1.heap.size ≤ w2.heap.size := e2.le
 have y2 : w.heap.size < w2.heap.size := by omega
 have y3 : w.heap.size + 1 < w2.heap.size := by omega
 have y4 : w.heap.size + 2 < w2.heap.size := by omega
 obtain ⟨q1, q2⟩ := e2.cells
 clear e1 e2
 go_wp2_with fail
 exact bodyPost_ret (v := .tuple #[Vl.zero.v, .string sType]) (by simp [results, Tryz.results15, go_sem, Vl.zero, sType, *]) rfl ⟨rfl, by repeat (first | exact k2 | refine Ext.alloc ?_ _ | refine Ext.setCell ?_ (by simp <;> omega) _)⟩
set_option maxRecDepth 100000 in
theorem rget_why (g : Nat) (tv : Value) (H : Hp) (t k : Vl) (w : World) (h : RHeapIn w g tv H) (hlen : H.tabs.length ≤ 9223372036854775807) (hk : k.ck = true) (hw : ¬ (ofW H t).toList = []) :
  Calls Tryz.prog 15 #[.pointer (some ⟨g, 0, none⟩), t.v, k.v] w fun e w' => e = .returned (.tuple #[Vl.zero.v, .string (ofW H t)]) ∧ Ext w w' := by
 have ho := fun W hW => rof_any g tv H t W hW hlen
 have hw' : (ofW H t).toList.isEmpty = false := by simpa using hw
 generalize ofW H t = o at *
 have HI := Lib.hid h
 clear h
 go_enter Tryz.func15, Tryz.ntmps15
 go_wp2_with fail
 refine (ho _ (((HI.out.ext ((((Ext.refl w).alloc _).alloc _).alloc _))))).mono ?_
 rintro e w1 ⟨rfl, e1⟩
 have k1 := ((((Ext.refl w).alloc _).alloc _).alloc _).trans e1
 obtain ⟨z1, z2, z3⟩ := e1.lt3
 obtain ⟨p1, p2⟩ := e1.cells
 clear ho
 go_wp2_with fail
 refine (rcheckV _ true hk _).mono ?_
 rintro e w2 ⟨rfl, e2⟩
 have k2 := k1.trans e2
 have y1 : w1.heap.size ≤ w2.heap.size := e2.le
 have y2 : w.heap.size < w2.heap.size := by omega
 have y3 : w.heap.size + 1 < w2.heap.size := by omega
 have y4 : w.heap.size + 2 < w2.heap.size := by omega
 obtain ⟨q1, q2⟩ := e2.cells
 clear e1 e2
 go_wp2_with fail
 exact bodyPost_ret (v := .tuple #[Vl.zero.v, .string o]) (by simp [results, Tryz.results15, go_sem, Vl.zero, *]) rfl ⟨rfl, by repeat (first | exact k2 | refine Ext.alloc ?_ _ | refine Ext.setCell ?_ (by simp <;> omega) _)⟩
set_option maxRecDepth 100000 in
theorem rget_key (g : Nat) (tv : Value) (H : Hp) (t k : Vl) (w : World) (h : RHeapIn w g tv H) (hlen : H.tabs.length ≤ 9223372036854775807) (hk : k.ck = true) (hn : ofW H t = sNone) (h2 : ¬ k.k = 2) (h3 : ¬ k.k = 3) :
  Calls Tryz.prog 15 #[.pointer (some ⟨g, 0, none⟩), t.v, k.v] w fun e w' => e = .returned (.tuple #[Vl.zero.v, .string sKey]) ∧ Ext w w' := by
 have ho := fun W hW => rof_any g tv H t W hW hlen
 have hs0 := sNone_list
 have hs1 : sNone.toList.isEmpty = true := by rw [hs0]; rfl
 rw [hn] at ho
 clear hn
 have h2' : (k.k != 2) = true := by simpa using h2
 have h3' : (k.k != 3) = true := by simpa using h3
 clear h2 h3
 have HI := Lib.hid h
 clear h
 go_enter Tryz.func15, Tryz.ntmps15
 go_wp2_with fail
 refine (ho _ (((HI.out.ext ((((Ext.refl w).alloc _).alloc _).alloc _))))).mono ?_
 rintro e w1 ⟨rfl, e1⟩
 have k1 := ((((Ext.refl w).alloc _).alloc _).alloc _).trans e1
 obtain ⟨z1, z2, z3⟩ := e1.lt3
 obtain ⟨p1, p2⟩ := e1.cells
 clear ho
 go_wp2_with fail
 refine (rcheckV _ true hk _).mono ?_
 rintro e w2 ⟨rfl, e2⟩
 have k2 := k1.trans e2
 have y1 : w1.heap.size ≤ w2.heap.size := e2.le
 have y2 : w.heap.size < w2.heap.size := by omega
 have y3 : w.heap.size + 1 < w2.heap.size := by omega
 have y4 : w.heap.size + 2 < w2.heap.size := by omega
 obtain ⟨q1, q2⟩ := e2.cells
 clear e1 e2
 go_wp2_with fail
 exact bodyPost_ret (v := .tuple #[Vl.zero.v, .string sKey]) (by simp [results, Tryz.results15, go_sem, Vl.zero, sKey, *]) rfl ⟨rfl, by repeat (first | exact k2 | refine Ext.alloc ?_ _ | refine Ext.setCell ?_ (by simp <;> omega) _)⟩
theorem rrow_cells {w : World} {tv : Value} {n : Nat} {rows : List (Value × Value)} (h : w.ownsRow 0 91 2 tv n (rrowOf rows)) (i : Nat) (r : Value × Value) (hr : rows[i]? = some r) :
  ∃ gb cap, tv = .slice (some ⟨gb, 0, none⟩) n cap ∧ gb < w.heap.size ∧ w.cell? ⟨gb, i * 2, none⟩ = some r.1 ∧ w.cell? ⟨gb, i * 2 + 1, none⟩ = some r.2 := by
 obtain ⟨hl, hrow⟩ := h
 have hlen : ∀ l : List (Value × Value), (rrowOf l).length = l.length * 2 := by
  intro l; induction l with
  | nil => rfl
  | cons x l ih => simp only [rrowOf, List.flatMap_cons, List.length_append, List.length_cons, List.length_nil] at ih ⊢; omega
 have hget : ∀ (l : List (Value × Value)) (i : Nat) (r : Value × Value), l[i]? = some r → (rrowOf l)[i * 2]? = some r.1 ∧ (rrowOf l)[i * 2 + 1]? = some r.2 := by
  intro l; induction l with
  | nil => intro i r h; simp at h
  | cons x l ih =>
   intro i r h
   cases i with
   | zero => simp at h; subst h; exact ⟨rfl, rfl⟩
   | succ i =>
    have := ih i r (by simpa using h)
    have e : (i + 1) * 2 = i * 2 + 1 + 1 := by omega
    rw [e]
    simpa [rrowOf] using this
 have hi : i < rows.length := (List.getElem?_eq_some_iff.1 hr).1
 rcases hrow with ⟨h1, h2⟩ | ⟨gb, cap, cur, e1, hb, hc, h2, h3, h4, h5⟩
 ·rw [hlen] at hl; omega
 ·obtain ⟨g1, g2⟩ := hget rows i r hr
  rw [← h5] at g1 g2
  rw [hlen] at hl
  rw [List.getElem?_take, if_pos (by omega)] at g1 g2
  refine ⟨gb, cap, e1, (Array.getElem?_eq_some_iff.1 hc).1, ?_, ?_⟩
  ·rw [cell_of_row w gb _ cur _ (0, 0) hc]; simpa using g1
  ·rw [cell_of_row w gb _ cur _ (0, 0) hc]; simpa using g2
theorem heap_cell {w w' : World} (h : w'.heap = w.heap) (a : Addr) : w'.cell? a = w.cell? a ∧ w'.frozen? a = w.frozen? a := by
 unfold World.cell? World.frozen?
 rw [h]
 exact ⟨rfl, rfl⟩
theorem tget_at {L T : Tb} (h : TRow L T) {k v : Vl} (hm : (k, v) ∈ L) : tget T k = v := by
 unfold tget
 rw [h.get, mget_of_mem h.once hm]
 rfl
theorem tget_none {L T : Tb} (h : TRow L T) {k : Vl} (hm : ∀ i (hi : i < L.length), L[i].1 ≠ k) : tget T k = Vl.zero := by
 unfold tget
 rw [h.get, (mget_mem L k).2]
 ·rfl
 ·intro hk
  obtain ⟨x, hx, e⟩ := List.mem_map.1 hk
  obtain ⟨i, hi, rfl⟩ := List.mem_iff_getElem.1 hx
  exact hm i hi e
set_option maxRecDepth 100000 in
theorem rget_tab (g : Nat) (tv : Value) (H : Hp) (t k : Vl) (w : World) (h : RHeapIn w g tv H) (hlen : H.tabs.length ≤ 9223372036854775807) (hk : k.ck = true) (hn : ofW H t = sNone) (h2 : k.k = 2 ∨ k.k = 3) :
  Calls Tryz.prog 15 #[.pointer (some ⟨g, 0, none⟩), t.v, k.v] w fun e w' => e = .returned (.tuple #[(tget (tabOf H t) k).v, .string sNone]) ∧ Ext w w' := by
 have ho := fun W hW => rof_any g tv H t W hW hlen
 have hs0 := sNone_list
 have hs1 : sNone.toList.isEmpty = true := by rw [hs0]; rfl
 rw [hn] at ho
 obtain ⟨o1, o2, o3, o4, o5⟩ := ofW_none hn
 have hnn : rofN H t = t.n := by unfold rofN; rw [if_pos hn]
 rw [hnn] at ho
 have HT := Lib.hid (tabOf_get o5)
 have hOK := tabOf_ok h.ok o5
 have hmost := hOK.most
 have HOKT := Lib.hid hOK
 have hkk : (if k.k = 2 then true else decide (k.k = 3)) = true := by
  rcases h2 with h2 | h2 <;> simp [h2]
 have HKK := Lib.hid h2
 clear hn hnn hOK h2 hkk
 obtain ⟨T, hT⟩ : ∃ T, T = tabOf H t := ⟨_, rfl⟩
 rw [← hT] at HT hmost HOKT ⊢
 clear hT
 obtain ⟨tk0, i, ts⟩ := t
 simp only at o1 o2 o3 o4 o5 HT ho
 obtain ⟨i, rfl⟩ : ∃ j : Nat, i = j := ⟨i.toNat, by omega⟩
 subst o2
 rw [Int.toNat_natCast] at HT o5
 obtain ⟨kk, kn, ks⟩ := k
 have HI := Lib.hid h
 clear h
 go_enter Tryz.func15, Tryz.ntmps15
 go_wp2_with fail
 refine (ho _ (((HI.out.ext ((((Ext.refl w).alloc _).alloc _).alloc _))))).mono ?_
 rintro e w1 ⟨rfl, e1⟩
 have k1 := ((((Ext.refl w).alloc _).alloc _).alloc _).trans e1
 obtain ⟨z1, z2, z3⟩ := e1.lt3
 obtain ⟨p1, p2⟩ := e1.cells
 clear ho
 go_wp2_with fail
 refine (rcheckV _ true hk _).mono ?_
 rintro e w2 ⟨rfl, e2⟩
 have k2 := k1.trans e2
 have y1 : w1.heap.size ≤ w2.heap.size := e2.le
 have y2 : w.heap.size < w2.heap.size := by omega
 have y3 : w.heap.size + 1 < w2.heap.size := by omega
 have y4 : w.heap.size + 2 < w2.heap.size := by omega
 obtain ⟨q1, q2⟩ := e2.cells
 clear e1 e2
 rcases HKK.out with h2 | h2
 ·try simp only at h2
  subst h2
  obtain ⟨rows, hrow, hrl, hrt⟩ := (HI.out.ext k2).rows
  have hir : i < rows.length := by omega
  have HR := Lib.hid (List.getElem?_eq_getElem hir)
  obtain ⟨gb, cap, e0, hgb, c1, c2⟩ := rrow_cells hrow i _ HR.out
  obtain ⟨L, l1, l2, l3⟩ := hrt i _ T HR.out HT.out
  have hcl : T.length = L.length := l1.count
  obtain ⟨qk, ck, ek⟩ := l2.slice
  obtain ⟨qv, cv, ev⟩ := l3.slice
  have c0 : w2.cell? ⟨g, 0, none⟩ = some tv := (HI.out.ext k2).head.cell 0
  rw [List.length_map] at ek ev
  rw [ek] at c1 l2
  rw [ev] at c2 l3
  rw [e0] at c0
  have L1 := Lib.hid l1
  have L2 := Lib.hid l2
  have L3 := Lib.hid l3
  have hgl : g < w2.heap.size := (HI.out.ext k2).head.lt
  clear hrow hrl hrt hir e0 l1 l2 l3 ek ev HT HR
  go_wp2_with fail
  obtain ⟨WW, hWW⟩ : ∃ WW, WW = w2.alloc (.cells #[.slice qk L.length ck, .slice qv L.length cv] 91) := ⟨_, rfl⟩
  have b0 : WW.cell? ⟨w2.heap.size, 0, none⟩ = some (.slice qk L.length ck) := by rw [hWW]; simp
  have b1 : WW.cell? ⟨w2.heap.size, 1, none⟩ = some (.slice qv L.length cv) := by rw [hWW]; simp
  have hE : Ext w2 WW := by rw [hWW]; exact (Ext.refl w2).alloc _
  have b2 : WW.cell? ⟨w.heap.size + 1, 0, none⟩ = some (.int .i64 2) := (hE.cells.1 _ _ (by omega)).trans (by rw [q1 _ _ (by omega), p1 _ _ (by rw [size_alloc, size_alloc, size_alloc]; omega)]; go_simp)
  have b3 : WW.cell? ⟨w.heap.size + 1, 1, none⟩ = some (.int .i64 kn) := (hE.cells.1 _ _ (by omega)).trans (by rw [q1 _ _ (by omega), p1 _ _ (by rw [size_alloc, size_alloc, size_alloc]; omega)]; go_simp)
  have b4 : WW.cell? ⟨w.heap.size + 1, 2, none⟩ = some (.string ks) := (hE.cells.1 _ _ (by omega)).trans (by rw [q1 _ _ (by omega), p1 _ _ (by rw [size_alloc, size_alloc, size_alloc]; omega)]; go_simp)
  have b5 : WW.cell? ⟨w.heap.size + 1 + 1, 0, none⟩ = some (.int .i64 0) := (hE.cells.1 _ _ (by omega)).trans (by rw [q1 _ _ (by omega), p1 _ _ (by rw [size_alloc, size_alloc, size_alloc]; omega)]; go_simp)
  have b6 : WW.cell? ⟨w.heap.size + 1 + 1, 1, none⟩ = some (.int .i64 0) := (hE.cells.1 _ _ (by omega)).trans (by rw [q1 _ _ (by omega), p1 _ _ (by rw [size_alloc, size_alloc, size_alloc]; omega)]; go_simp)
  have b7 : WW.cell? ⟨w.heap.size + 1 + 1, 2, none⟩ = some (.string ⟨#[]⟩) := (hE.cells.1 _ _ (by omega)).trans (by rw [q1 _ _ (by omega), p1 _ _ (by rw [size_alloc, size_alloc, size_alloc]; omega)]; go_simp)
  have f5 : ∀ o, WW.frozen? ⟨w.heap.size + 1 + 1, o, none⟩ = false := fun o => (hE.cells.2 _ _ (by omega)).trans (by rw [q2 _ _ (by omega), p2 _ _ (by rw [size_alloc, size_alloc, size_alloc]; omega)]; go_simp)
  have BB := Lib.hid (And.intro b0 (And.intro b1 (And.intro b2 (And.intro b3 (And.intro b4 (And.intro b5 (And.intro b6 (And.intro b7 f5))))))))
  have L2' := Lib.hid (L2.out.ext hE)
  have L3' := Lib.hid (L3.out.ext hE)
  have kW := Lib.hid (k2.trans hE)
  have hsW : w2.heap.size < WW.heap.size := by rw [hWW, size_alloc]; omega
  clear L2 L3 b0 b1 b2 b3 b4 b5 b6 b7 f5 hE q1 q2 c0 c1 c2 k1 k2 hgl hgb o3 o4 o5 o1 z1 z2 z3 p1 p2 HKK hk
  rw [← hWW]
  clear hWW
  go_loopw [11] (fun x wr => ∃ j : Nat, x = .int .i64 j ∧ j ≤ L.length ∧ Hid (∀ t (ht : t < L.length), t < j → L[t].1 ≠ ⟨2, kn, ks⟩) ∧ Hid (wr.heap = WW.heap ∧ Ext w wr)) (fun x _ => L.length - (intOf x).toNat)
  case atStart => exact ⟨0, rfl, Nat.zero_le _, Lib.hid (fun t ht h => by omega), Lib.hid ⟨rfl, kW.out⟩⟩
  case round =>
   obtain ⟨j, rfl, hj, HN, HW⟩ := hrel
   have hc := fun a => (heap_cell HW.out.1 a).1
   have hf := fun a => (heap_cell HW.out.1 a).2
   obtain ⟨b0, b1, b2, b3, b4, b5, b6, b7, f5⟩ := BB.out
   rw [← hc] at b0 b1 b2 b3 b4 b5 b6 b7
   have f0 := (hf _).trans (f5 0)
   have f1 := (hf _).trans (f5 1)
   have f2 := (hf _).trans (f5 2)
   have HE := Lib.hid HW.out.2
   have jW : w.heap.size + 2 < wr.heap.size := by rw [HW.out.1]; omega
   have jW2 : w2.heap.size < wr.heap.size := by rw [HW.out.1]; omega
   clear f5
   rcases Nat.lt_or_ge j L.length with hlt | hge
   ·obtain ⟨bk, capk, ek, hbk, d1, d2, d3⟩ := L2'.out.cells j L[j].1 (by simp [List.getElem?_map, List.getElem?_eq_getElem hlt])
    obtain ⟨bv, capv, ev, hbv, d4, d5, d6⟩ := L3'.out.cells j L[j].2 (by simp [List.getElem?_map, List.getElem?_eq_getElem hlt])
    rw [List.length_map] at ek ev
    obtain ⟨rfl, rfl⟩ : qk = some ⟨bk, 0, none⟩ ∧ ck = capk := by injection ek with h1 _ h3; exact ⟨h1, h3⟩
    obtain ⟨rfl, rfl⟩ : qv = some ⟨bv, 0, none⟩ ∧ cv = capv := by injection ev with h1 _ h3; exact ⟨h1, h3⟩
    rw [← hc] at d1 d2 d3 d4 d5 d6
    have hd : decide ((j : Int) < (L.length : Int)) = true := by simp; omega
    have hd' : decide (j < L.length) = true := by simp; omega
    have g1 := fun a b x y W => vl_guard .eql (.inl rfl) a b x y W
    have hmem := Lib.hid (List.getElem_mem hlt)
    obtain ⟨x, hx⟩ : ∃ x, x = L[j] := ⟨_, rfl⟩
    rw [← hx] at d1 d2 d3 d4 d5 d6 hmem
    obtain ⟨⟨xk, xn, xs⟩, ⟨yk, yn, ys⟩⟩ := x
    simp only at d1 d2 d3 d4 d5 d6
    have v1 := fun W => vl_eql ⟨xk, xn, xs⟩ ⟨2, kn, ks⟩ W
    have HX := Lib.hid hx
    clear hc hf ek ev hx hbk hbv
    by_cases he : (⟨xk, xn, xs⟩ : Vl) = ⟨2, kn, ks⟩
    ·rw [decide_eq_true he] at v1
     have HQ := Lib.hid he
     clear he
     go_wp2_with fail
     go_quiet (fail)
     go_wp2_with fail
     have HRes : Hid (tget T ⟨2, kn, ks⟩ = ⟨yk, yn, ys⟩) := Lib.hid (by
      refine tget_at L1.out ?_
      have := hmem.out
      rw [HQ.out] at this
      exact this)
     have HF := Lib.hid HE.out
     exact bodyPost_ret (v := .tuple #[(⟨yk, yn, ys⟩ : Vl).v, .string sNone]) (by simp [results, Tryz.results15, go_sem, sNone, *]) rfl ⟨ret2_of ⟨by rw [HRes.out], rfl⟩, by repeat (first | exact HF.out | refine Ext.drewN ?_ _ | refine Ext.alloc ?_ _ | refine Ext.setCell ?_ (by simp <;> omega) _)⟩
    ·rw [decide_eq_false he] at v1
     have HQ := Lib.hid he
     clear he
     go_wp2_with fail
     go_quiet (fail)
     go_wp2_with fail
     go_roundw
     case rel => exact ⟨j + 1, by go_num, by omega, Lib.hid (fun t ht h => by
      rcases Nat.lt_or_ge t j with h1 | h1
      ·exact HN.out t ht h1
      ·obtain rfl : t = j := by omega
       rw [← HX.out]; exact HQ.out), Lib.hid ⟨HW.out.1, HE.out.drewN _⟩⟩
     case measure => simp [intOf]; omega
   ·obtain rfl : j = L.length := by omega
    clear hc hf
    go_wp2_with fail
    have HRes : Hid (tget T ⟨2, kn, ks⟩ = Vl.zero) := Lib.hid (tget_none L1.out fun t ht => HN.out t ht ht)
    exact bodyPost_ret (v := .tuple #[Vl.zero.v, .string sNone]) (by simp [results, Tryz.results15, go_sem, sNone, Vl.zero, *]) rfl ⟨ret2_of ⟨by rw [HRes.out], rfl⟩, by repeat (first | exact HE.out | refine Ext.drewN ?_ _ | refine Ext.alloc ?_ _ | refine Ext.setCell ?_ (by simp <;> omega) _)⟩
 ·try simp only at h2
  subst h2
  obtain ⟨rows, hrow, hrl, hrt⟩ := (HI.out.ext k2).rows
  have hir : i < rows.length := by omega
  have HR := Lib.hid (List.getElem?_eq_getElem hir)
  obtain ⟨gb, cap, e0, hgb, c1, c2⟩ := rrow_cells hrow i _ HR.out
  obtain ⟨L, l1, l2, l3⟩ := hrt i _ T HR.out HT.out
  have hcl : T.length = L.length := l1.count
  obtain ⟨qk, ck, ek⟩ := l2.slice
  obtain ⟨qv, cv, ev⟩ := l3.slice
  have c0 : w2.cell? ⟨g, 0, none⟩ = some tv := (HI.out.ext k2).head.cell 0
  rw [List.length_map] at ek ev
  rw [ek] at c1 l2
  rw [ev] at c2 l3
  rw [e0] at c0
  have L1 := Lib.hid l1
  have L2 := Lib.hid l2
  have L3 := Lib.hid l3
  have hgl : g < w2.heap.size := (HI.out.ext k2).head.lt
  clear hrow hrl hrt hir e0 l1 l2 l3 ek ev HT HR
  go_wp2_with fail
  obtain ⟨WW, hWW⟩ : ∃ WW, WW = w2.alloc (.cells #[.slice qk L.length ck, .slice qv L.length cv] 91) := ⟨_, rfl⟩
  have b0 : WW.cell? ⟨w2.heap.size, 0, none⟩ = some (.slice qk L.length ck) := by rw [hWW]; simp
  have b1 : WW.cell? ⟨w2.heap.size, 1, none⟩ = some (.slice qv L.length cv) := by rw [hWW]; simp
  have hE : Ext w2 WW := by rw [hWW]; exact (Ext.refl w2).alloc _
  have b2 : WW.cell? ⟨w.heap.size + 1, 0, none⟩ = some (.int .i64 3) := (hE.cells.1 _ _ (by omega)).trans (by rw [q1 _ _ (by omega), p1 _ _ (by rw [size_alloc, size_alloc, size_alloc]; omega)]; go_simp)
  have b3 : WW.cell? ⟨w.heap.size + 1, 1, none⟩ = some (.int .i64 kn) := (hE.cells.1 _ _ (by omega)).trans (by rw [q1 _ _ (by omega), p1 _ _ (by rw [size_alloc, size_alloc, size_alloc]; omega)]; go_simp)
  have b4 : WW.cell? ⟨w.heap.size + 1, 2, none⟩ = some (.string ks) := (hE.cells.1 _ _ (by omega)).trans (by rw [q1 _ _ (by omega), p1 _ _ (by rw [size_alloc, size_alloc, size_alloc]; omega)]; go_simp)
  have b5 : WW.cell? ⟨w.heap.size + 1 + 1, 0, none⟩ = some (.int .i64 0) := (hE.cells.1 _ _ (by omega)).trans (by rw [q1 _ _ (by omega), p1 _ _ (by rw [size_alloc, size_alloc, size_alloc]; omega)]; go_simp)
  have b6 : WW.cell? ⟨w.heap.size + 1 + 1, 1, none⟩ = some (.int .i64 0) := (hE.cells.1 _ _ (by omega)).trans (by rw [q1 _ _ (by omega), p1 _ _ (by rw [size_alloc, size_alloc, size_alloc]; omega)]; go_simp)
  have b7 : WW.cell? ⟨w.heap.size + 1 + 1, 2, none⟩ = some (.string ⟨#[]⟩) := (hE.cells.1 _ _ (by omega)).trans (by rw [q1 _ _ (by omega), p1 _ _ (by rw [size_alloc, size_alloc, size_alloc]; omega)]; go_simp)
  have f5 : ∀ o, WW.frozen? ⟨w.heap.size + 1 + 1, o, none⟩ = false := fun o => (hE.cells.2 _ _ (by omega)).trans (by rw [q2 _ _ (by omega), p2 _ _ (by rw [size_alloc, size_alloc, size_alloc]; omega)]; go_simp)
  have BB := Lib.hid (And.intro b0 (And.intro b1 (And.intro b2 (And.intro b3 (And.intro b4 (And.intro b5 (And.intro b6 (And.intro b7 f5))))))))
  have L2' := Lib.hid (L2.out.ext hE)
  have L3' := Lib.hid (L3.out.ext hE)
  have kW := Lib.hid (k2.trans hE)
  have hsW : w2.heap.size < WW.heap.size := by rw [hWW, size_alloc]; omega
  clear L2 L3 b0 b1 b2 b3 b4 b5 b6 b7 f5 hE q1 q2 c0 c1 c2 k1 k2 hgl hgb o3 o4 o5 o1 z1 z2 z3 p1 p2 HKK hk
  rw [← hWW]
  clear hWW
  go_loopw [11] (fun x wr => ∃ j : Nat, x = .int .i64 j ∧ j ≤ L.length ∧ Hid (∀ t (ht : t < L.length), t < j → L[t].1 ≠ ⟨3, kn, ks⟩) ∧ Hid (wr.heap = WW.heap ∧ Ext w wr)) (fun x _ => L.length - (intOf x).toNat)
  case atStart => exact ⟨0, rfl, Nat.zero_le _, Lib.hid (fun t ht h => by omega), Lib.hid ⟨rfl, kW.out⟩⟩
  case round =>
   obtain ⟨j, rfl, hj, HN, HW⟩ := hrel
   have hc := fun a => (heap_cell HW.out.1 a).1
   have hf := fun a => (heap_cell HW.out.1 a).2
   obtain ⟨b0, b1, b2, b3, b4, b5, b6, b7, f5⟩ := BB.out
   rw [← hc] at b0 b1 b2 b3 b4 b5 b6 b7
   have f0 := (hf _).trans (f5 0)
   have f1 := (hf _).trans (f5 1)
   have f2 := (hf _).trans (f5 2)
   have HE := Lib.hid HW.out.2
   have jW : w.heap.size + 2 < wr.heap.size := by rw [HW.out.1]; omega
   have jW2 : w2.heap.size < wr.heap.size := by rw [HW.out.1]; omega
   clear f5
   rcases Nat.lt_or_ge j L.length with hlt | hge
   ·obtain ⟨bk, capk, ek, hbk, d1, d2, d3⟩ := L2'.out.cells j L[j].1 (by simp [List.getElem?_map, List.getElem?_eq_getElem hlt])
    obtain ⟨bv, capv, ev, hbv, d4, d5, d6⟩ := L3'.out.cells j L[j].2 (by simp [List.getElem?_map, List.getElem?_eq_getElem hlt])
    rw [List.length_map] at ek ev
    obtain ⟨rfl, rfl⟩ : qk = some ⟨bk, 0, none⟩ ∧ ck = capk := by injection ek with h1 _ h3; exact ⟨h1, h3⟩
    obtain ⟨rfl, rfl⟩ : qv = some ⟨bv, 0, none⟩ ∧ cv = capv := by injection ev with h1 _ h3; exact ⟨h1, h3⟩
    rw [← hc] at d1 d2 d3 d4 d5 d6
    have hd : decide ((j : Int) < (L.length : Int)) = true := by simp; omega
    have hd' : decide (j < L.length) = true := by simp; omega
    have g1 := fun a b x y W => vl_guard .eql (.inl rfl) a b x y W
    have hmem := Lib.hid (List.getElem_mem hlt)
    obtain ⟨x, hx⟩ : ∃ x, x = L[j] := ⟨_, rfl⟩
    rw [← hx] at d1 d2 d3 d4 d5 d6 hmem
    obtain ⟨⟨xk, xn, xs⟩, ⟨yk, yn, ys⟩⟩ := x
    simp only at d1 d2 d3 d4 d5 d6
    have v1 := fun W => vl_eql ⟨xk, xn, xs⟩ ⟨3, kn, ks⟩ W
    have HX := Lib.hid hx
    clear hc hf ek ev hx hbk hbv
    by_cases he : (⟨xk, xn, xs⟩ : Vl) = ⟨3, kn, ks⟩
    ·rw [decide_eq_true he] at v1
     have HQ := Lib.hid he
     clear he
     go_wp2_with fail
     go_quiet (fail)
     go_wp2_with fail
     have HRes : Hid (tget T ⟨3, kn, ks⟩ = ⟨yk, yn, ys⟩) := Lib.hid (by
      refine tget_at L1.out ?_
      have := hmem.out
      rw [HQ.out] at this
      exact this)
     have HF := Lib.hid HE.out
     exact bodyPost_ret (v := .tuple #[(⟨yk, yn, ys⟩ : Vl).v, .string sNone]) (by simp [results, Tryz.results15, go_sem, sNone, *]) rfl ⟨ret2_of ⟨by rw [HRes.out], rfl⟩, by repeat (first | exact HF.out | refine Ext.drewN ?_ _ | refine Ext.alloc ?_ _ | refine Ext.setCell ?_ (by simp <;> omega) _)⟩
    ·rw [decide_eq_false he] at v1
     have HQ := Lib.hid he
     clear he
     go_wp2_with fail
     go_quiet (fail)
     go_wp2_with fail
     go_roundw
     case rel => exact ⟨j + 1, by go_num, by omega, Lib.hid (fun t ht h => by
      rcases Nat.lt_or_ge t j with h1 | h1
      ·exact HN.out t ht h1
      ·obtain rfl : t = j := by omega
       rw [← HX.out]; exact HQ.out), Lib.hid ⟨HW.out.1, HE.out.drewN _⟩⟩
     case measure => simp [intOf]; omega
   ·obtain rfl : j = L.length := by omega
    clear hc hf
    go_wp2_with fail
    have HRes : Hid (tget T ⟨3, kn, ks⟩ = Vl.zero) := Lib.hid (tget_none L1.out fun t ht => HN.out t ht ht)
    exact bodyPost_ret (v := .tuple #[Vl.zero.v, .string sNone]) (by simp [results, Tryz.results15, go_sem, sNone, Vl.zero, *]) rfl ⟨ret2_of ⟨by rw [HRes.out], rfl⟩, by repeat (first | exact HE.out | refine Ext.drewN ?_ _ | refine Ext.alloc ?_ _ | refine Ext.setCell ?_ (by simp <;> omega) _)⟩
theorem rget_any (g : Nat) (tv : Value) (H : Hp) (t k : Vl) (w : World) (h : RHeapIn w g tv H) (hlen : H.tabs.length ≤ 9223372036854775807) :
  Calls Tryz.prog 15 #[.pointer (some ⟨g, 0, none⟩), t.v, k.v] w fun e w' => e = .returned (.tuple #[(getV H t k).v, .string (getW H t k)]) ∧ Ext w w' := by
 cases hc : k.ck with
 | false =>
  have e : getW H t k = sType := by unfold getW; rw [hc]; rfl
  have e2 : getV H t k = Vl.zero := by unfold getV; rw [if_neg (by rw [e]; exact sNone_ne.2.1)]
  rw [e, e2]
  exact rget_type g tv H t k w h hlen hc
 | true =>
  by_cases hn : ofW H t = sNone
  ·by_cases h2 : k.k = 2 ∨ k.k = 3
   ·have e : getW H t k = sNone := by unfold getW; rw [hc, if_pos rfl, if_pos hn, if_pos h2]
    have e2 : getV H t k = tget (tabOf H t) k := by unfold getV; rw [if_pos e]
    rw [e, e2]
    exact rget_tab g tv H t k w h hlen hc hn h2
   ·have e : getW H t k = sKey := by unfold getW; rw [hc, if_pos rfl, if_pos hn, if_neg h2]
    have e2 : getV H t k = Vl.zero := by unfold getV; rw [if_neg (by rw [e]; exact sNone_ne.1)]
    rw [e, e2]
    exact rget_key g tv H t k w h hlen hc hn (fun h => h2 (.inl h)) (fun h => h2 (.inr h))
  ·have e : getW H t k = ofW H t := by unfold getW; rw [hc, if_pos rfl, if_neg hn]
   have e2 : getV H t k = Vl.zero := by unfold getV; rw [if_neg (by rw [e]; exact hn)]
   rw [e, e2]
   exact rget_why g tv H t k w h hlen hc (fun hl => hn (toList_nil hl))
end Go.Proofs.YtlfihdcgbhdajaaGreatDoor
namespace Go.Proofs.YtlfihdcgbhdajaaGreatDoor
open Go.RowKit
set_option linter.unusedVariables false
set_option linter.unusedSimpArgs false

def ZV (w : World) (b : Nat) : Prop := Blk w b 34 #[.int .i64 0, .int .i64 0, .string ⟨#[]⟩]
theorem ZV.new {W w' : World} (b : Nat) (hb : b = W.heap.size) (h : Ext (W.alloc (.cells #[.int .i64 0, .int .i64 0, .string ⟨#[]⟩] 34)) w') : ZV w' b := by
 subst hb
 exact (Blk.new W 34 #[.int .i64 0, .int .i64 0, .string ⟨#[]⟩]).ext h
theorem ZV.newd {W w' : World} (b : Nat) (hb : b = W.heap.size) (h : Ext (World.drew (W.alloc (.cells #[.int .i64 0, .int .i64 0, .string ⟨#[]⟩] 34))) w') : ZV w' b := by
 subst hb
 exact (Blk.new W 34 #[.int .i64 0, .int .i64 0, .string ⟨#[]⟩]).drew.ext h
theorem ZV.ext {w w' : World} {b : Nat} (h : ZV w b) (he : Ext w w') : ZV w' b := Blk.ext h he
theorem ZV.facts {w' : World} {b : Nat} (hB : ZV w' b) : b < w'.heap.size ∧ w'.cell? ⟨b, 0, none⟩ = some (.int .i64 0) ∧ w'.cell? ⟨b, 1, none⟩ = some (.int .i64 0) ∧ w'.cell? ⟨b, 2, none⟩ = some (.string ⟨#[]⟩) ∧
  w'.frozen? ⟨b, 0, none⟩ = false ∧ w'.frozen? ⟨b, 1, none⟩ = false ∧ w'.frozen? ⟨b, 2, none⟩ = false :=
 ⟨hB.lt, hB.cell 0, hB.cell 1, hB.cell 2, hB.frozen 0, hB.frozen 1, hB.frozen 2⟩
end Go.Proofs.YtlfihdcgbhdajaaGreatDoor
namespace Go.Proofs.YtlfihdcgbhdajaaGreatDoor
open Go.RowKit
set_option linter.unusedVariables false
set_option linter.unusedSimpArgs false

structure AppRuns (P : Program) (t ty : TypeId) (v x' : Value) (w : World) (v' : Value) (w' : World) : Prop where
 run : (Builtin.append_ #[t, t] ty #[v, x']).run P w = .ok v' w'
theorem step_append_run {P : Program} {w : World} {ops : Array Oper} {o : Oper} {a : Act} {K : Act → World → Prop} {Q : Exit → Act → World → Prop} {E : Prop} (hgd : o.guard = none) (s x : Operand) (t : TypeId)
  (ho : o.op = .call { callee := .builtin .append, args := #[s, x], argTypes := #[t, t] }) (v x' v' : Value) (w' : World) (hs : a.eval s = v) (hx : a.eval x = x')
  (hrun : AppRuns P t o.type v x' w v' w') (h : K (a.put o.dst v') w') :
  if Region.wanted o (yielded ops a.tmps) = true then Oper.wp P o a w K Q else E := by
 have hw : Region.wanted o (yielded ops a.tmps) = true := by simp [Region.wanted, hgd]
 rw [if_pos hw]
 unfold Oper.wp execOp
 simp only [ho, resolve, invoke, builtin, Sem.run_bind, Sem.run_pure, Result.andThen_ok, List.map_toArray, List.map_cons, List.map_nil, hs, hx, hrun.run]
 exact h
theorem wpList_append_runs {P : Program} {w : World} {ops : Array Oper} {rest : List Oper} {o : Oper} {a : Act} {Q : Exit → Act → World → Prop} (hgd : o.guard = none) (s x : Operand) (t : TypeId)
  (ho : o.op = .call { callee := .builtin .append, args := #[s, x], argTypes := #[t, t] }) (v x' v' : Value) (w' : World) (hs : a.eval s = v) (hx : a.eval x = x')
  (hrun : AppRuns P t o.type v x' w v' w') (h : wpList P ops Q rest (a.put o.dst v') w') : wpList P ops Q (o :: rest) a w :=
 wpList_append_run hgd s x t ho v x' v' w' hs hx hrun.run h
abbrev RowB (w : World) (B : Nat) (v : Value) (l : List Vl) : Prop := w.ownsRow B 34 3 v l.length (flat l)
theorem RowB.at0 {w : World} {B : Nat} {v : Value} {l : List Vl} (h : RowB w B v l) : RowAt w v l := by
 obtain ⟨hl, hrow⟩ := h
 refine ⟨hl, ?_⟩
 rcases hrow with h1 | ⟨g, cap, cur, e1, hb, h2⟩
 ·exact .inl h1
 ·exact .inr ⟨g, cap, cur, e1, Nat.zero_le _, h2⟩
structure Two (w : World) (B : Nat) (kv : Value) (ks : List Vl) (vv : Value) (vs : List Vl) : Prop where
 k : RowB w B kv ks
 v : RowB w B vv vs
 ne : ∀ x, kv.ownBlock = some x → vv.ownBlock ≠ some x
 base : B ≤ w.heap.size
theorem Two.swap {w : World} {B : Nat} {kv vv : Value} {ks vs : List Vl} (h : Two w B kv ks vv vs) : Two w B vv vs kv ks := ⟨h.v, h.k, fun x hx hy => h.ne x hy hx, h.base⟩
theorem Two.nil (w : World) (B : Nat) (hB : B ≤ w.heap.size) : Two w B (.slice none 0 0) [] (.slice none 0 0) [] := ⟨World.ownsRow_nil _ _ _ _, World.ownsRow_nil _ _ _ _, fun x hx => by simp [Value.ownBlock] at hx, hB⟩
theorem Two.of_heap {w w' : World} {B : Nat} {kv vv : Value} {ks vs : List Vl} (h : Two w B kv ks vv vs) (hs : w.heap.size ≤ w'.heap.size) (he : ∀ k, B ≤ k → k < w.heap.size → w'.heap[k]? = w.heap[k]?) : Two w' B kv ks vv vs :=
 ⟨own_of_heap h.k he, own_of_heap h.v he, h.ne, Nat.le_trans h.base hs⟩
theorem Two.ext {w w' : World} {B : Nat} {kv vv : Value} {ks vs : List Vl} (h : Two w B kv ks vv vs) (he : Ext w w') : Two w' B kv ks vv vs := h.of_heap he.le fun k _ hk => he.block k hk
theorem Two.set {w : World} {B : Nat} {kv vv : Value} {ks vs : List Vl} (h : Two w B kv ks vv vs) {p : Addr} (hp : p.block < B) (u : Value) : Two (w.setCell p u) B kv ks vv vs :=
 h.of_heap (by simp [World.setCell]) fun k hk _ => Below.heap_setCell w p u k (by omega)
structure App (W : World) (B : Nat) (kv : Value) (ks : List Vl) (vv : Value) (vs : List Vl) (w' : World) (v' : Value) : Prop where
 two : Two w' B v' ks vv vs
 low : ∀ k, k < B → w'.heap[k]? = W.heap[k]?
 keep : W.grownBy w' kv.ownBlock
 size : W.heap.size ≤ w'.heap.size
theorem app_val (W : World) (ty : TypeId) (B b : Nat) (kv vv : Value) (ks vs : List Vl) (x : Vl) (hb : Blk W b 34 #[.int .i64 x.k, .int .i64 x.n, .string x.s]) (h : Two W B kv ks vv vs) (hn : ks.length < 1000000) :
  ∃ v' w', AppRuns Tryz.prog 42 ty kv (.slice (some ⟨b, 0, none⟩) 1 1) W v' w' ∧ App W B kv (ks ++ [x]) vv vs w' v' := by
 obtain ⟨i0, hi, hz0, hz1, hz2⟩ := info_parts infoVal
 obtain ⟨v', w', h1, h2, h3, _, h4⟩ := run_append_own_at (P := Tryz.prog) (w := W) B 42 ty 34 i0 Vl.zero.v 3 32 Tryz.underlying42 hi hz0 hz1 hz2 rfl (by omega) kv ks.length (flat ks) h.k ⟨b, 0, none⟩ 1 1
  [.int .i64 x.k, .int .i64 x.n, .string x.s] rfl (fun j u hu => by
   have hadd : (⟨b, 0, none⟩ : Addr).add j = ⟨b, 0 + j, none⟩ := by unfold Addr.add; split <;> simp_all
   rw [hadd, hb.cell, Nat.zero_add]
   simpa using hu) (by intro u hu; simp at hu; rcases hu with rfl | rfl | rfl <;> rfl) (by unfold maxLen; omega) (by omega) h.base
 refine ⟨v', w', ⟨h1⟩, ⟨⟨by (show w'.ownsRow B 34 3 v' (ks ++ [x]).length (flat (ks ++ [x]))); rw [flat_snoc, List.length_append]; exact h2, ?_, ?_, Nat.le_trans h.base h3.size⟩, fun k hk => ?_, h3, h3.size⟩⟩
 ·refine h.v.kept h3 ?_
  cases hv : kv.ownBlock with
  | none => cases hv2 : vv.ownBlock <;> simp
  | some y => exact .inr (h.ne y hv)
 ·intro y hy hv
  rcases h4 with h4 | h4
  ·rw [h4] at hy; exact h.ne y hy hv
  ·rw [h4] at hy
   obtain rfl := Option.some.inj hy
   have := (h.v.lt _ hv).2
   omega
 ·refine h3.block k (by have := h.base; omega) (fun e => ?_)
  have := (h.k.lt k e.symm).1
  omega
theorem App.only {W w' : World} {B : Nat} {kv vv v' : Value} {ks vs : List Vl} (h : App W B kv ks vv vs w' v') (hk : ∀ x, kv.ownBlock = some x → B ≤ x) {a : World} {Y : Nat} (ho : Only Y a W) (hB : a.heap.size ≤ B) : Only Y a w' :=
 ⟨h.keep.os.trans ho.os, h.keep.tape.trans ho.tape, h.keep.output.trans ho.output, Nat.le_trans ho.size h.size, fun i hi hn => (h.low i (Nat.lt_of_lt_of_le hi hB)).trans (ho.block i hi hn)⟩
end Go.Proofs.YtlfihdcgbhdajaaGreatDoor
