/- A teller: its words in a row of its own, what else stays. Trees as words: plain lemmas for the tellers. The teller: key, name, sign, names. The teller: made, inner, list. -/
import Derived.Test.YtkbcnacjaakleaaGreatDoorYP12
import Derived.Test.YtkbcnacjaakleaaGreatDoorYP07
import Derived.Test.YtkbcnacjaakleaaGreatDoorYP04
import Derived.Test.YtkbcnacjaakleaaGreatDoorYP03
set_option maxRecDepth 100000
set_option maxHeartbeats 32000000
set_option linter.unusedVariables false
set_option linter.unusedSimpArgs false
namespace Go.Proofs.YtkbcnacjaakleaaGreatDoor
open Go.RowKit

theorem OwnW.lt {w : World} {B : Nat} {v : Value} {l : List Wd} (h : OwnW w B v l) : ∀ y, v.ownBlock = some y → B ≤ y ∧ y < w.heap.size := by
 intro y hy
 rcases h.2 with ⟨h1, h2⟩ | ⟨gb, cap, cur, e1, hB, hc, _⟩
 ·rw [h1] at hy; simp [Value.ownBlock] at hy
 ·rw [e1] at hy
  obtain rfl := Option.some.inj hy
  exact ⟨hB, (Array.getElem?_eq_some_iff.1 hc).1⟩
structure TG (T : Nat) (w0 : World) (v0 : Value) (K : List (Nat × Obj)) (W : World) (v : Value) (l : List Wd) : Prop where
 blk : Blk W T 77 #[v]
 own : OwnW W (T + 1) v l
 low : T < w0.heap.size
 row0 : ∀ y, v0.ownBlock = some y → T < y ∧ y < w0.heap.size
 row : v.ownBlock = v0.ownBlock ∨ ∀ y, v.ownBlock = some y → w0.heap.size ≤ y
 os : W.os = w0.os
 tape : W.tape = w0.tape
 output : W.output = w0.output
 size : w0.heap.size ≤ W.heap.size
 keep : ∀ k, k < w0.heap.size → k ≠ T → v0.ownBlock ≠ some k → W.heap[k]? = w0.heap[k]?
 box : ∀ p ∈ K, w0.heap.size ≤ p.1 ∧ W.heap[p.1]? = some p.2 ∧ v.ownBlock ≠ some p.1
section
variable {T : Nat} {w0 W W' : World} {v0 v v' : Value} {K : List (Nat × Obj)} {l l' : List Wd}
theorem TG.start {w : World} (hb : Blk w T 77 #[v]) (ho : OwnW w (T + 1) v l) : TG T w v [] w v l :=
 ⟨hb, ho, hb.lt, fun y hy => ⟨(ho.lt y hy).1, (ho.lt y hy).2⟩, .inl rfl, rfl, rfl, rfl, Nat.le_refl _, fun _ _ _ _ => rfl, fun p hp => (List.not_mem_nil hp).elim⟩
theorem TG.ext (h : TG T w0 v0 K W v l) (he : Ext W W') : TG T w0 v0 K W' v l :=
 ⟨h.blk.ext he, h.own.ext he, h.low, h.row0, h.row, he.os.trans h.os, he.tape.trans h.tape, he.output.trans h.output, Nat.le_trans h.size he.le, fun k hk h1 h2 => (he.block k (Nat.lt_of_lt_of_le hk h.size)).trans (h.keep k hk h1 h2), fun p hp => by
  obtain ⟨h1, h2, h3⟩ := h.box p hp
  exact ⟨h1, (he.block p.1 (Array.getElem?_eq_some_iff.1 h2).1).trans h2, h3⟩⟩
theorem TG.lt (h : TG T w0 v0 K W v l) : T < W.heap.size := h.blk.lt
theorem TG.newK (h : TG T w0 v0 K W v l) (o : Obj) : TG T w0 v0 ((W.heap.size, o) :: K) (W.alloc o) v l := by
 have h1 := h.ext ((Ext.refl W).alloc o)
 refine ⟨h1.blk, h1.own, h1.low, h1.row0, h1.row, h1.os, h1.tape, h1.output, h1.size, h1.keep, fun p hp => ?_⟩
 rcases List.mem_cons.1 hp with rfl | hp
 ·exact ⟨h.size, heap_alloc_new W o, fun e => by have := (h.own.lt _ e).2; omega⟩
 ·exact h1.box p hp
theorem TG.sub {K' : List (Nat × Obj)} (h : TG T w0 v0 K W v l) (hK : ∀ p ∈ K', p ∈ K) : TG T w0 v0 K' W v l :=
 ⟨h.blk, h.own, h.low, h.row0, h.row, h.os, h.tape, h.output, h.size, h.keep, fun p hp => h.box p (hK p hp)⟩
theorem TG.nob (h : TG T w0 v0 K W v l) : TG T w0 v0 [] W v l := h.sub (fun p hp => (List.not_mem_nil hp).elim)
theorem TG.call (h : TG T w0 v0 K W v l) (g : TG T W v [] W' v' l') : TG T w0 v0 K W' v' l' := by
 refine ⟨g.blk, g.own, h.low, h.row0, ?_, g.os.trans h.os, g.tape.trans h.tape, g.output.trans h.output, Nat.le_trans h.size g.size, fun k hk h1 h2 => ?_, fun p hp => ?_⟩
 ·rcases g.row with e | e
  ·rw [e]; exact h.row
  ·exact .inr fun y hy => Nat.le_trans h.size (e y hy)
 ·refine (g.keep k (Nat.lt_of_lt_of_le hk h.size) h1 (fun e => ?_)).trans (h.keep k hk h1 h2)
  rcases h.row with e' | e'
  ·exact h2 (e' ▸ e)
  ·have := e' k e; omega
 ·obtain ⟨h1, h2, h3⟩ := h.box p hp
  have hl := (Array.getElem?_eq_some_iff.1 h2).1
  have := h.low
  refine ⟨h1, (g.keep p.1 hl (by omega) h3).trans h2, fun e => ?_⟩
  rcases g.row with e' | e'
  ·exact h3 (e' ▸ e)
  ·have := e' p.1 e; omega
theorem TG.txts {u : Value} {ns : List ByteArray} (h : TG T w0 v0 K W v l) (ht : TxtsAt (· < T) w0 u ns) : TxtsAt (· < T) W u ns :=
 ht.keep (fun b o x hb hc => by
  have hb' : b < T := hb
  exact (World.cell?_of_block (h.keep b (cell_lt hc) (by omega) (fun e => by have := (h.row0 b e).1; omega))).trans hc) (fun _ _ h => h)
theorem TG.kids {d : Nat} {u : Value} {ks : List Nd} (h : TG T w0 v0 K W v l) (ht : KidsAt (· < T) w0 d u ks) : KidsAt (· < T) W d u ks :=
 ht.keep (fun b o x hb hc => by
  have hb' : b < T := hb
  exact (World.cell?_of_block (h.keep b (cell_lt hc) (by omega) (fun e => by have := (h.row0 b e).1; omega))).trans hc) (fun _ _ h => h)
theorem TG.slice (h : TG T w0 v0 K W v l) : ∃ q c, v = .slice q l.length c := h.own.slice
theorem TG.push (h : TG T w0 v0 K W v l) (x : Wd) (ty : TypeId) (hlen : l.length ≤ 1000000000) :
  ∃ v' W', AppRuns Tryz.prog 75 ty v (.slice (some ⟨W.heap.size, 0, none⟩) 1 1) (W.alloc (.cells (wdC x).toArray 138)) v' W' ∧ Blk W' T 77 #[v] ∧
   (∃ q c, v' = .slice q (l.length + 1) c) ∧ TG T w0 v0 K (W'.setCell ⟨T, 0, none⟩ v') v' (l ++ [x]) := by
 have h1 := h.ext ((Ext.refl W).alloc (.cells (wdC x).toArray 138))
 have hb := Blk.new W 138 (wdC x).toArray
 have hsz : (W.alloc (.cells (wdC x).toArray 138)).heap.size = W.heap.size + 1 := size_alloc _ _
 have hold := h.own.lt
 have hT := h.blk.lt
 have hbx := h.box
 have hle := h.size
 generalize W.alloc (.cells (wdC x).toArray 138) = W1 at *
 obtain ⟨i0, hi, hz0, hz1, hz2⟩ := info_parts infoWd
 obtain ⟨v', W', a1, a2, a3, _, a4⟩ := run_append_own_at (P := Tryz.prog) (w := W1) (T + 1) 75 ty 138 i0 _ 4 40 Tryz.underlying75 hi hz0 hz1 hz2 rfl (by omega) v l.length (l.flatMap wdC) h1.own ⟨W.heap.size, 0, none⟩ 1 1
  (wdC x) rfl (fun j u hu => by
   have hadd : (⟨W.heap.size, 0, none⟩ : Addr).add j = ⟨W.heap.size, 0 + j, none⟩ := by unfold Addr.add; split <;> simp_all
   rw [hadd, hb.cell, Nat.zero_add]
   simpa using hu) (by intro u hu; simp [wdC] at hu; rcases hu with rfl | rfl | rfl | rfl <;> rfl) (by unfold maxLen; omega) (by omega) (by omega)
 have hown : OwnW W' (T + 1) v' (l ++ [x]) := by simpa [OwnW, List.flatMap_append] using a2
 have hlow := h.low
 have kT : ∀ k, k < W1.heap.size → v.ownBlock ≠ some k → W'.heap[k]? = W1.heap[k]? := fun k hk hn => a3.block k hk (fun e => hn e.symm)
 have hTn : v.ownBlock ≠ some T := fun e => by have := (hold T e).1; omega
 have bT : Blk W' T 77 #[v] := (kT T h1.blk.lt hTn).trans h1.blk
 have hv'T : ∀ y, v'.ownBlock = some y → ¬ y = T := fun y hy e => by have := (hown.lt y hy).1; omega
 have far : ∀ k, k ≠ T → (W'.setCell ⟨T, 0, none⟩ v').heap[k]? = W'.heap[k]? := fun k hk => Below.heap_setCell W' ⟨T, 0, none⟩ v' k hk
 refine ⟨v', W', ⟨a1⟩, bT, ?_, ⟨by simpa using bT.set_ 0 v', ?_, h.low, h.row0, ?_, a3.os.trans h1.os, a3.tape.trans h1.tape, a3.output.trans h1.output, ?_, fun k hk h2 h3 => ?_, fun p hp => ?_⟩⟩
 ·obtain ⟨q, c, e⟩ := hown.slice
  exact ⟨q, c, by rw [e]; simp⟩
 ·exact own_blk hown (fun g hg hl => far g (hv'T g hg))
 ·rcases a4 with e | e
  ·rw [e]; exact h.row
  ·exact .inr fun y hy => by rw [e] at hy; have := Option.some.inj hy; omega
 ·show w0.heap.size ≤ (W'.setCell ⟨T, 0, none⟩ v').heap.size
  have e1 : (W'.setCell ⟨T, 0, none⟩ v').heap.size = W'.heap.size := by simp [World.setCell]
  have e2 : W1.heap.size ≤ W'.heap.size := a3.size
  omega
 ·refine (far k h2).trans ((kT k (by omega) (fun e => ?_)).trans (h1.keep k hk h2 h3))
  rcases h.row with e' | e'
  ·exact h3 (e' ▸ e)
  ·have := e' k e; omega
 ·obtain ⟨b1, b2, b3⟩ := h1.box p hp
  obtain ⟨c1, c2, c3⟩ := hbx p hp
  have hl := (Array.getElem?_eq_some_iff.1 b2).1
  have hl0 := (Array.getElem?_eq_some_iff.1 c2).1
  refine ⟨b1, (far p.1 (by omega)).trans ((kT p.1 hl b3).trans b2), fun e => ?_⟩
  rcases a4 with e' | e'
  ·exact b3 (e' ▸ e)
  ·rw [e'] at e; have := Option.some.inj e; omega
end
theorem TG.pushS {T : Nat} {w0 W : World} {v0 v : Value} {K : List (Nat × Obj)} {l : List Wd} (h : TG T w0 v0 K W v l) (k : Int) (s : ByteArray) (n : Int) (ty : TypeId) (hlen : l.length ≤ 1000000000) :
  ∃ (q : Option Addr) (c : Nat) (W' : World), AppRuns Tryz.prog 75 ty v (.slice (some ⟨W.heap.size, 0, none⟩) 1 1) (W.alloc (.cells #[.int .i64 k, .string s, .int .i64 n, .int .i64 0] 138)) (.slice q (l.length + 1) c) W' ∧ Blk W' T 77 #[v] ∧
   TG T w0 v0 K (W'.setCell ⟨T, 0, none⟩ (.slice q (l.length + 1) c)) (.slice q (l.length + 1) c) (l ++ [⟨k, s.data.toList, n, 0⟩]) := by
 obtain ⟨v', W', h1, h2, ⟨q, c, rfl⟩, h4⟩ := h.push ⟨k, s.data.toList, n, 0⟩ ty hlen
 have e : (wdC ⟨k, s.data.toList, n, 0⟩).toArray = #[.int .i64 k, .string s, .int .i64 n, .int .i64 0] := by simp [wdC]
 rw [e] at h1
 exact ⟨q, c, W', h1, h2, h4⟩
def TellE (T : Nat) (w : World) (v : Value) (l m : List Wd) (e : Ending) (w' : World) : Prop := (∃ u, e = .returned u) ∧ ∃ v', TG T w v [] w' v' (l ++ m)
end Go.Proofs.YtkbcnacjaakleaaGreatDoor
namespace Go.Proofs.YtkbcnacjaakleaaGreatDoor

theorem tellN_eq (x : Nd) : tellN x = tellK x.k x.name x.text x.n x.names (x.kids.map Nd.k) (x.kids.map tellN) := by
 obtain ⟨k, a, t, n, ns, ks⟩ := x
 simp only [tellN]
 rw [tellL_map]; rfl
theorem commaT_snoc (a : List (List Wd)) (x : List Wd) : commaT (a ++ [x]) = if a = [] then x else commaT a ++ sgW [44] :: x := by
 cases a with
 | nil => simp [commaT]
 | cons y a => simp [commaT, List.flatMap_append]
theorem commaT_take {l : List (List Wd)} {j : Nat} (h : j < l.length) : commaT (l.take (j + 1)) = if j = 0 then l[j] else commaT (l.take j) ++ sgW [44] :: l[j] := by
 rw [List.take_succ_eq_append_getElem h, commaT_snoc]
 by_cases hj : j = 0
 ·subst hj; simp
 ·have hne : ¬ l.take j = [] := fun e => by
   have := congrArg List.length e
   rw [List.length_take, List.length_nil] at this
   omega
  rw [if_neg hne, if_neg hj]
theorem flat_take {α β : Type} (f : α → List β) {l : List α} {j : Nat} (h : j < l.length) : (l.take (j + 1)).flatMap f = (l.take j).flatMap f ++ f l[j] := by
 rw [List.take_succ_eq_append_getElem h, List.flatMap_append]
 simp
def elT : List (List Wd) → List Wd
 | c :: b :: l => kwW tElseif :: (c ++ kwW tThen :: (b ++ elT l))
 | _ => []
def accT : List (List Wd) → List Wd
 | c :: b :: l => kwW tIf :: (c ++ kwW tThen :: (b ++ elT l))
 | _ => [kwW tIf]
theorem elT_snoc : ∀ (m : Nat) (a : List (List Wd)) (c b : List Wd), a.length = 2 * m → elT (a ++ [c, b]) = elT a ++ kwW tElseif :: (c ++ kwW tThen :: b)
 | 0, a, c, b, h => by
  obtain rfl : a = [] := List.eq_nil_of_length_eq_zero (by omega)
  simp [elT]
 | m + 1, [], c, b, h => by simp at h
 | m + 1, [x], c, b, h => by simp at h; omega
 | m + 1, x :: y :: a, c, b, h => by
  have := elT_snoc m a c b (by simp at h; omega)
  simp only [List.cons_append, elT, this]
  simp [List.append_assoc]
theorem accT_snoc {m : Nat} {a : List (List Wd)} (c b : List Wd) (h : a.length = 2 * m) : accT (a ++ [c, b]) = accT a ++ (if m = 0 then [] else [kwW tElseif]) ++ (c ++ kwW tThen :: b) := by
 match m, a, h with
 | 0, a, h =>
  obtain rfl : a = [] := List.eq_nil_of_length_eq_zero (by omega)
  simp [accT, elT]
 | m + 1, [], h => simp at h
 | m + 1, [x], h => simp at h; omega
 | m + 1, x :: y :: a, h =>
  have := elT_snoc m a c b (by simp at h; omega)
  simp only [List.cons_append, accT, this]
  simp [List.append_assoc]
theorem restT_eq : ∀ (m : Nat) (a r : List (List Wd)), a.length = 2 * m → restT (a ++ r) = elT a ++ restT r
 | 0, a, r, h => by
  obtain rfl : a = [] := List.eq_nil_of_length_eq_zero (by omega)
  simp [elT]
 | m + 1, [], r, h => by simp at h
 | m + 1, [x], r, h => by simp at h; omega
 | m + 1, x :: y :: a, r, h => by
  have := restT_eq m a r (by simp at h; omega)
  simp only [List.cons_append, restT, elT, this]
  simp [List.append_assoc]
theorem ifT_eq {m : Nat} {a : List (List Wd)} (r : List (List Wd)) (h : a.length = 2 * (m + 1)) : ifT (a ++ r) = accT a ++ restT r := by
 match a, h with
 | [], h => simp at h
 | [x], h => simp at h; omega
 | x :: y :: a, h =>
  have := restT_eq m a r (by simp at h; omega)
  simp only [List.cons_append, ifT, accT, this]
  simp [List.append_assoc]
theorem exprK_in {k : Int} (h : exprK k = true) : k = 10 ∨ k = 11 ∨ k = 12 ∨ k = 13 ∨ k = 14 ∨ k = 15 ∨ k = 16 ∨ k = 17 ∨ k = 18 ∨ k = 21 ∨ k = 22 ∨ k = 23 ∨ k = 24 := by
 unfold exprK at h
 simp only [Bool.and_eq_true, decide_eq_true_eq, Bool.not_eq_true', beq_eq_false_iff_ne, ne_eq] at h
 omega
theorem may_node {x : Nd} (h : mayN x = true) : nodeP x.k x.name x.text x.n x.names x.kids = true ∧ ∀ y ∈ x.kids, mayN y = true := by
 obtain ⟨k, a, t, n, ns, ks⟩ := x
 simp only [mayN, Bool.and_eq_true] at h
 exact ⟨h.2, mayL_mem h.1⟩
theorem may_kids {x : Nd} {k : Int} (h : mayN x = true) (hk : x.k = k) (h0 : k ≠ 0) {s : Shp} (hs : shapeP k = some s) : s.kids x.kids = true ∧ s.least ≤ x.names.length ∧ x.names.length ≤ s.most := by
 subst hk
 obtain ⟨s', e, F⟩ := nodeP_of (may_node h).1 h0
 rw [hs] at e
 cases e
 exact ⟨F.kids, F.least, F.most⟩
theorem kids_16 {x : Nd} (h : mayN x = true) (hk : x.k = 16) : ∃ a b, x.kids = [a, b] ∧ exprK a.k = true ∧ exprK b.k = true := countP_2 (may_kids h hk (by decide) rfl).1
theorem kids_17 {x : Nd} (h : mayN x = true) (hk : x.k = 17) : ∀ y ∈ x.kids, exprK y.k = true := fun y hy => List.all_eq_true.1 (may_kids h hk (by decide) rfl).1 y hy
theorem kids_18 {x : Nd} (h : mayN x = true) (hk : x.k = 18) : ∀ y ∈ x.kids, y.k = 19 ∨ y.k = 20 := fun y hy => by
 have := List.all_eq_true.1 (show tableP x.kids = true from (may_kids h hk (by decide) rfl).1) y hy
 simpa using this
theorem kids_19 {x : Nd} (h : mayN x = true) (hk : x.k = 19) : ∃ a, x.kids = [a] ∧ exprK a.k = true := countP_1 (may_kids h hk (by decide) rfl).1
theorem kids_20 {x : Nd} (h : mayN x = true) (hk : x.k = 20) : ∃ a b, x.kids = [a, b] ∧ exprK a.k = true ∧ exprK b.k = true := countP_2 (may_kids h hk (by decide) rfl).1
theorem kids_21 {x : Nd} (h : mayN x = true) (hk : x.k = 21) : ∃ a b, x.kids = [a, b] ∧ exprK a.k = true ∧ exprK b.k = true := countP_2 (may_kids h hk (by decide) rfl).1
theorem kids_22 {x : Nd} (h : mayN x = true) (hk : x.k = 22 ∨ x.k = 23 ∨ x.k = 24) : ∃ a, x.kids = [a] ∧ exprK a.k = true := by
 rcases hk with hk | hk | hk <;> exact countP_1 (may_kids h hk (by decide) rfl).1
theorem kids_1 {x : Nd} (h : mayN x = true) (hk : x.k = 1) : (∀ y ∈ x.kids, exprK y.k = true) ∧ 1 ≤ x.names.length := ⟨fun y hy => List.all_eq_true.1 (may_kids h hk (by decide) rfl).1 y hy, (may_kids h hk (by decide) rfl).2.1⟩
theorem kids_2 {x : Nd} (h : mayN x = true) (hk : x.k = 2) : ∃ a b, x.kids = [a, b] ∧ exprK a.k = true ∧ exprK b.k = true := by
 obtain ⟨a, b, e, h1, h2⟩ := assign_2 (may_kids h hk (by decide) rfl).1
 exact ⟨a, b, e, by rcases h2 with h2 | h2 <;> rw [h2] <;> decide, h1⟩
theorem kids_3 {x : Nd} (h : mayN x = true) (hk : x.k = 3) : ∃ b, x.kids = [b] ∧ b.k = 0 := blockAt_0 (may_kids h hk (by decide) rfl).1
theorem kids_4 {x : Nd} (h : mayN x = true) (hk : x.k = 4) : BrOk x.kids ∧ ∃ c b r, x.kids = c :: b :: r := branches_ok (may_kids h hk (by decide) rfl).1
theorem kids_5 {x : Nd} (h : mayN x = true) (hk : x.k = 5) : ∃ a b, x.kids = [a, b] ∧ exprK a.k = true ∧ b.k = 0 := blockAt_1 (may_kids h hk (by decide) rfl).1
theorem kids_6 {x : Nd} (h : mayN x = true) (hk : x.k = 6) : (∃ s, x.names = [s]) ∧ ∃ l b, x.kids = l ++ [b] ∧ (∀ y ∈ l, exprK y.k = true) ∧ b.k = 0 := by
 obtain ⟨h1, h2, h3⟩ := may_kids h hk (by decide) rfl
 refine ⟨?_, ?_⟩
 ·have e : x.names.length = 1 := by simp only at h2 h3; omega
  exact List.length_eq_one_iff.1 e
 ·rcases Bool.or_eq_true _ _ ▸ h1 with h1 | h1
  ·obtain ⟨a, b, c, e, g1, g2, g3⟩ := blockAt_2 h1
   exact ⟨[a, b], c, e, fun y hy => by simp at hy; rcases hy with rfl | rfl <;> assumption, g3⟩
  ·obtain ⟨a, b, e1, c, e, g1, g2, g3, g4⟩ := blockAt_3 h1
   exact ⟨[a, b, e1], c, e, fun y hy => by simp at hy; rcases hy with rfl | rfl | rfl <;> assumption, g4⟩
theorem kids_7 {x : Nd} (h : mayN x = true) (hk : x.k = 7) : ∀ y ∈ x.kids, exprK y.k = true := fun y hy => by
 have := (may_kids h hk (by decide) rfl).1
 simp only [Bool.and_eq_true] at this
 exact List.all_eq_true.1 this.2 y hy
theorem kids_9 {x : Nd} (h : mayN x = true) (hk : x.k = 9) : ∃ b, x.kids = [b] ∧ b.k = 0 := blockAt_0 (may_kids h hk (by decide) rfl).1
theorem block_stmts : ∀ {l : List Nd}, blockFrom l = true → ∀ y ∈ l, stmtK y.k = true
 | [], _, y, hy => by simp at hy
 | x :: l, h, y, hy => by
  simp only [blockFrom, Bool.and_eq_true] at h
  rcases List.mem_cons.1 hy with rfl | hy
  ·exact h.1.1
  ·exact block_stmts h.2 y hy
theorem kids_0 {x : Nd} (h : mayN x = true) (hk : x.k = 0) : ∀ y ∈ x.kids, stmtK y.k = true := by
 have := (may_node h).1
 rw [hk] at this
 exact block_stmts (nodeP_zero this).2.2.2.2
theorem stmtK_in {k : Int} (h : stmtK k = true) : k = 1 ∨ k = 2 ∨ k = 3 ∨ k = 4 ∨ k = 5 ∨ k = 6 ∨ k = 7 ∨ k = 8 ∨ k = 9 ∨ k = 17 := by
 unfold stmtK at h
 simp only [Bool.or_eq_true, Bool.and_eq_true, decide_eq_true_eq, beq_iff_eq] at h
 omega
theorem br_pair : ∀ (m : Nat) (l : List Nd), BrOk l → ∀ (h : 2 * m + 1 < l.length), exprK (l[2 * m]'(by omega)).k = true ∧ (l[2 * m + 1]'h).k = 0
 | _, [], _, h => by simp at h
 | _, [x], _, h => by simp at h
 | 0, c :: b :: l, hb, _ => ⟨hb.1, hb.2.1⟩
 | m + 1, c :: b :: l, hb, h => br_pair m l hb.2.2 (by simp at h; omega)
theorem br_last : ∀ (m : Nat) (l : List Nd), BrOk l → ∀ (h : l.length = 2 * m + 1), (l[2 * m]'(by omega)).k = 0
 | _, [], _, h => by simp at h
 | 0, [x], hb, _ => hb
 | m + 1, [x], _, h => by simp at h
 | 0, c :: b :: l, _, h => by simp at h
 | m + 1, c :: b :: l, hb, h => br_last m l hb.2.2 (by simp at h; omega)
open Go.RowKit

theorem tkey_any (w : World) (T : Nat) (v : Value) (l : List Wd) (s : ByteArray) (h : TG T w v [] w v l) (hl : l.length ≤ 1000000000) :
  Calls Tryz.prog 150 #[.pointer (some ⟨T, 0, none⟩), .string s] w (TellE T w v l [kwW s.data.toList]) := by
 obtain ⟨q, c, W', hr, hb, hS⟩ := h.pushS 1 s 0 75 hl
 have HR := Lib.hid hr
 have z0 : w.cell? ⟨T, 0, none⟩ = some v := h.blk.cell 0
 have z1 : W'.cell? ⟨T, 0, none⟩ = some v := hb.cell 0
 have f1 : W'.frozen? ⟨T, 0, none⟩ = false := hb.frozen 0
 have l1 := hb.lt
 have l0 := h.blk.lt
 have HS := Lib.hid hS
 clear hr hb hS
 obtain ⟨qv, cv, rfl⟩ := h.slice
 clear h hl
 generalize l.length + 1 = m1 at *
 generalize l.length = m0 at *
 go_enter Tryz.func150, Tryz.ntmps150
 go_wp2_with (at_builtin; refine wpList_append_runs rfl _ _ 75 rfl _ _ _ _ rfl rfl HR.out ?_)
 go_end0
 exact ⟨⟨_, rfl⟩, _, HS.out⟩
theorem tname_any (w : World) (T : Nat) (v : Value) (l : List Wd) (s : ByteArray) (h : TG T w v [] w v l) (hl : l.length ≤ 1000000000) :
  Calls Tryz.prog 155 #[.pointer (some ⟨T, 0, none⟩), .string s] w (TellE T w v l [nmW s]) := by
 obtain ⟨q, c, W', hr, hb, hS⟩ := h.pushS 0 s 0 75 hl
 have HR := Lib.hid hr
 have z0 : w.cell? ⟨T, 0, none⟩ = some v := h.blk.cell 0
 have z1 : W'.cell? ⟨T, 0, none⟩ = some v := hb.cell 0
 have f1 : W'.frozen? ⟨T, 0, none⟩ = false := hb.frozen 0
 have l1 := hb.lt
 have l0 := h.blk.lt
 have HS := Lib.hid hS
 clear hr hb hS
 obtain ⟨qv, cv, rfl⟩ := h.slice
 clear h hl
 generalize l.length + 1 = m1 at *
 generalize l.length = m0 at *
 go_enter Tryz.func155, Tryz.ntmps155
 go_wp2_with (at_builtin; refine wpList_append_runs rfl _ _ 75 rfl _ _ _ _ rfl rfl HR.out ?_)
 go_end0
 exact ⟨⟨_, rfl⟩, _, HS.out⟩
theorem sg_take (L : List ByteArray) (j : Nat) (h : j < L.length) : (L.take (j + 1)).map (fun s => sgW s.data.toList) = (L.take j).map (fun s => sgW s.data.toList) ++ [sgW L[j].data.toList] := by
 rw [List.take_succ_eq_append_getElem h, List.map_append]; rfl
theorem tsign_any (w : World) (T : Nat) (v : Value) (l : List Wd) (g : Nat) (L : List ByteArray) (h : TG T w v [] w v l) (hg : Blk w g 9 (L.map Value.string).toArray) (hgT : g ≠ T) (hgv : v.ownBlock ≠ some g) (hl : l.length + L.length ≤ 1000000000) :
  Calls Tryz.prog 79 #[.pointer (some ⟨T, 0, none⟩), .slice (some ⟨g, 0, none⟩) L.length L.length] w (TellE T w v l (L.map fun s => sgW s.data.toList)) := by
 have H := Lib.hid h
 have HG := Lib.hid hg
 obtain ⟨n, hn⟩ : ∃ n, L.length = n := ⟨_, rfl⟩
 have HN := Lib.hid hn
 rw [hn] at hl ⊢
 have glt := hg.lt
 have TLT := h.blk.lt
 have l0 : T < w.heap.size := h.blk.lt
 have HK := Lib.hid (show ∀ (W : World) (v' : Value) (l' : List Wd), TG T w v [] W v' l' → Blk W g 9 (L.map Value.string).toArray from fun W v' l' hh => (hh.keep g glt hgT hgv).trans hg)
 clear h hg hn
 go_enter Tryz.func79, Tryz.ntmps79
 go_wp2_with fail
 go_loopw [8] (fun i wr => ∃ (j : Nat) (v' : Value), i = .int .i64 (j : Int) ∧ j ≤ n ∧ Hid (TG T w v [] wr v' (l ++ (L.take j).map fun s => sgW s.data.toList))) (fun i _ => n - (intOf i).toNat)
 case atStart => exact ⟨0, v, rfl, Nat.zero_le _, Lib.hid (by simpa using H.out)⟩
 case round =>
  obtain ⟨j, v', rfl, hj, HS⟩ := hrel
  by_cases hlt : j < n
  ·have jl : j < L.length := by rw [HN.out]; exact hlt
   have c0 : wr.cell? ⟨g, j, none⟩ = some (.string L[j]) := by
    rw [(HK.out wr _ _ HS.out).cell]
    simp [jl]
   have hT := sg_take L j jl
   have hlen : (l ++ (L.take j).map fun s => sgW s.data.toList).length ≤ 1000000000 := by simp; omega
   have hm : (l ++ (L.take j).map fun s => sgW s.data.toList).length = l.length + j := by simp; omega
   generalize L[j] = s at *
   obtain ⟨q, c, W', hr, hb, hS⟩ := HS.out.pushS 4 s 0 75 hlen
   have z0 : wr.cell? ⟨T, 0, none⟩ = some v' := HS.out.blk.cell 0
   have z1 : W'.cell? ⟨T, 0, none⟩ = some v' := hb.cell 0
   have f1 : W'.frozen? ⟨T, 0, none⟩ = false := hb.frozen 0
   have l1 := hb.lt
   have l2 := HS.out.blk.lt
   have gw := cell_lt c0
   obtain ⟨qv, cv, rfl⟩ := HS.out.slice
   rw [hm] at hr hS z0 z1
   have HR := Lib.hid hr
   have HS2 := Lib.hid (show TG T w v [] (W'.setCell ⟨T, 0, none⟩ (.slice q (l.length + j + 1) c)) (.slice q (l.length + j + 1) c) (l ++ (L.take (j + 1)).map fun s => sgW s.data.toList) by rw [hT, ← List.append_assoc]; exact hS)
   have i0 : (0 : Int) ≤ (j : Int) := by omega
   have i1 : (j : Int) < (n : Int) := by omega
   have i2 : decide ((j : Int) < (n : Int)) = true := decide_eq_true i1
   clear hr hb hS hT hlen hm jl
   generalize l.length + j + 1 = m1 at *
   generalize l.length + j = m0 at *
   go_wp2_with (at_builtin; refine wpList_append_runs rfl _ _ 75 rfl _ _ _ _ rfl rfl HR.out ?_)
   go_roundw
   case rel => exact ⟨j + 1, _, by go_num, hlt, HS2⟩
   case measure => simp [intOf]; omega
  ·obtain rfl : j = n := by omega
   have i2 : decide ((j : Int) < (j : Int)) = false := decide_eq_false (by omega)
   have e : L.take j = L := List.take_of_length_le (by rw [HN.out]; exact Nat.le_refl _)
   have HE := Lib.hid (show TG T w v [] wr v' (l ++ L.map fun s => sgW s.data.toList) by have := HS.out; rw [e] at this; exact this)
   go_wp2_with fail
   go_end0
   exact ⟨⟨_, rfl⟩, _, HE.out⟩
theorem tsign1 (W : World) (T : Nat) (v : Value) (l : List Wd) (s : ByteArray) (h : TG T W v [] W v l) (hl : l.length < 1000000000) :
  Calls Tryz.prog 79 #[.pointer (some ⟨T, 0, none⟩), .slice (some ⟨W.heap.size, 0, none⟩) 1 1] (W.alloc (.cells #[.string s] 9)) (TellE T W v l [sgW s.data.toList]) := by
 have h1 := h.ext ((Ext.refl W).alloc (.cells #[.string s] 9))
 have hT := h.blk.lt
 refine (tsign_any (W.alloc (.cells #[.string s] 9)) T v l W.heap.size [s] (TG.start h1.blk h1.own) (Blk.new W _ _) (by omega) (fun e => by have := (h.own.lt _ e).2; omega) (by simp; omega)).mono ?_
 rintro e w' ⟨h2, v', h3⟩
 exact ⟨h2, v', h1.call h3⟩
theorem tsign2 (W : World) (T : Nat) (v : Value) (l : List Wd) (s t : ByteArray) (h : TG T W v [] W v l) (hl : l.length + 2 ≤ 1000000000) :
  Calls Tryz.prog 79 #[.pointer (some ⟨T, 0, none⟩), .slice (some ⟨W.heap.size, 0, none⟩) 2 2] (W.alloc (.cells #[.string s, .string t] 9)) (TellE T W v l [sgW s.data.toList, sgW t.data.toList]) := by
 have h1 := h.ext ((Ext.refl W).alloc (.cells #[.string s, .string t] 9))
 have hT := h.blk.lt
 refine (tsign_any (W.alloc (.cells #[.string s, .string t] 9)) T v l W.heap.size [s, t] (TG.start h1.blk h1.own) (Blk.new W _ _) (by omega) (fun e => by have := (h.own.lt _ e).2; omega) (by simp; omega)).mono ?_
 rintro e w' ⟨h2, v', h3⟩
 exact ⟨h2, v', h1.call h3⟩
theorem TG.self {T : Nat} {w0 W : World} {v0 v : Value} {K : List (Nat × Obj)} {l : List Wd} (h : TG T w0 v0 K W v l) : TG T W v [] W v l := TG.start h.blk h.own
theorem tnames_any (w : World) (T : Nat) (v : Value) (l : List Wd) (u : Value) (ns : List ByteArray) (h : TG T w v [] w v l) (ht : TxtsAt (· < T) w u ns) (hns : ns.length ≤ 9000000000000) (hl : l.length + 2 * ns.length ≤ 1000000001) :
  Calls Tryz.prog 151 #[.pointer (some ⟨T, 0, none⟩), u] w (TellE T w v l (namesT ns)) := by
 obtain ⟨q, c, rfl⟩ := ht.slice
 have H := Lib.hid h
 obtain ⟨n, hn⟩ : ∃ n, ns.length = n := ⟨_, rfl⟩
 have HN := Lib.hid hn
 rw [hn] at hl hns ⊢
 have HTX := Lib.hid (show TxtsAt (· < T) w (.slice q n c) ns by rw [← hn]; exact ht)
 obtain ⟨M, hM⟩ : ∃ M, ns.map (fun s => [nmW s]) = M := ⟨_, rfl⟩
 have hMl : M.length = n := by rw [← hM, List.length_map, hn]
 have HM := Lib.hid hM
 have HML := Lib.hid hMl
 have hln : ∀ j, j ≤ n → (commaT (M.take j)).length ≤ 2 * j := by
  intro j
  induction j with
  | zero => intro _; simp [commaT]
  | succ j ih =>
   intro hj
   have e := ih (by omega)
   rw [commaT_take (by omega)]
   have e1 : M[j]'(by omega) = [nmW (ns[j]'(by omega))] := by simp [← hM]
   rw [e1]
   split
   ·simp; omega
   ·simp; omega
 have HLN := Lib.hid hln
 clear h ht hn hM hMl hln
 go_enter Tryz.func151, Tryz.ntmps151
 go_wp2_with fail
 go_loopw [8] (fun i wr => ∃ (j : Nat) (v' : Value), i = .int .i64 (j : Int) ∧ j ≤ n ∧ Hid (TG T w v [] wr v' (l ++ commaT (M.take j)))) (fun i _ => n - (intOf i).toNat)
 case atStart => exact ⟨0, v, rfl, Nat.zero_le _, Lib.hid (by simpa [commaT] using H.out)⟩
 case round =>
  obtain ⟨j, v', rfl, hj, HS⟩ := hrel
  by_cases hlt : j < n
  ·have jl : j < ns.length := by rw [HN.out]; exact hlt
   have jM : j < M.length := by rw [HML.out]; exact hlt
   obtain ⟨b, o, rfl, c0⟩ := TxtsAt.elem (HS.out.txts HTX.out) jl
   have gw := cell_lt c0
   have hT := commaT_take jM
   have hMj : M[j] = [nmW ns[j]] := by simp [← HM.out]
   rw [hMj] at hT
   have hb := HLN.out j hj
   generalize ns[j] = s at *
   have i0 : (0 : Int) ≤ (j : Int) := by omega
   have i1 : (j : Int) < (n : Int) := by omega
   have i2 : decide ((j : Int) < (n : Int)) = true := decide_eq_true i1
   have HT := Lib.hid hT
   have HB := Lib.hid hb
   clear hT hb hMj jM jl
   by_cases hz : j = 0
   ·have i3 : decide ((0 : Int) < (j : Int)) = false := decide_eq_false (by omega)
    have i4 : decide (0 < j) = false := decide_eq_false (by omega)
    have HZ := Lib.hid hz
    clear hz
    go_wp2_with fail
    refine (tname_any wr T v' _ s HS.out.self (by have := HB.out; simp; omega)).mono ?_
    rintro e w2 ⟨⟨_, rfl⟩, v2, S2⟩
    have HS2 := Lib.hid (show TG T w v [] w2 v2 (l ++ commaT (M.take (j + 1))) by
     have := HS.out.call S2
     rw [HT.out, if_pos HZ.out]
     have e : commaT (M.take j) = [] := by rw [HZ.out]; rfl
     rw [e, List.append_nil] at this
     exact this)
    clear S2 c0
    go_wp2_with fail
    go_roundw
    case rel => exact ⟨j + 1, _, by go_num, hlt, HS2⟩
    case measure => simp [intOf]; omega
   ·have i3 : decide ((0 : Int) < (j : Int)) = true := decide_eq_true (by omega)
    have i4 : decide (0 < j) = true := decide_eq_true (by omega)
    have HZ := Lib.hid hz
    clear hz
    go_wp2_with fail
    refine (tsign1 wr T v' _ ⟨#[44]⟩ HS.out.self (by have := HB.out; simp; omega)).mono ?_
    rintro e w2 ⟨⟨_, rfl⟩, v2, S2⟩
    have HS2 := Lib.hid (HS.out.call S2)
    clear S2 c0
    go_wp2_with fail
    refine (tname_any w2 T v2 _ s HS2.out.self (by have := HB.out; simp; omega)).mono ?_
    rintro e w3 ⟨⟨_, rfl⟩, v3, S3⟩
    have HS3 := Lib.hid (show TG T w v [] w3 v3 (l ++ commaT (M.take (j + 1))) by
     have := HS2.out.call S3
     rw [HT.out, if_neg HZ.out]
     simpa [List.append_assoc] using this)
    clear S3
    go_wp2_with fail
    go_roundw
    case rel => exact ⟨j + 1, _, by go_num, hlt, HS3⟩
    case measure => simp [intOf]; omega
  ·obtain rfl : j = n := by omega
   have i2 : decide ((j : Int) < (j : Int)) = false := decide_eq_false (by omega)
   have HE := Lib.hid (show TG T w v [] wr v' (l ++ namesT ns) by
    have := HS.out
    rw [List.take_of_length_le (by rw [HML.out]; exact Nat.le_refl _)] at this
    unfold namesT
    rw [HM.out]
    exact this)
   go_wp2_with fail
   go_end0
   exact ⟨⟨_, rfl⟩, _, HE.out⟩
theorem made_any (w : World) (x : Nd) (qn : Option Addr) (nn cn : Nat) (ql : Option Addr) (kn cl : Nat) : Calls Tryz.prog 213 #[ndV x (.slice qn nn cn) (.slice ql kn cl)] w fun e w' => e = .returned (.bool (madeK x.k)) ∧ Ext w w' := by
 obtain ⟨r, hr⟩ : ∃ r, madeK x.k = r := ⟨_, rfl⟩
 rw [hr]
 unfold madeK at hr
 have HE := Lib.hid ((Ext.refl w).alloc (ndO x (.slice qn nn cn) (.slice ql kn cl)))
 cases h1 : (x.k == 21) <;> cases h2 : (x.k == 22) <;> cases h3 : (x.k == 23) <;> cases h4 : (x.k == 24)
 all_goals (
  rw [h1, h2, h3, h4] at hr
  subst hr
  go_enter Tryz.func213, Tryz.ntmps213
  go_wp2_with fail
  go_ret
  exact ⟨rfl, HE.out⟩)
theorem tsign1' (W : World) (T : Nat) (v : Value) (l : List Wd) (s : ByteArray) (h : TG T W v [] W v l) (hl : l.length < 1000000000) (g : Nat) (hg : W.heap.size = g) :
  Calls Tryz.prog 79 #[.pointer (some ⟨T, 0, none⟩), .slice (some ⟨g, 0, none⟩) 1 1] (W.alloc (.cells #[.string s] 9)) (TellE T W v l [sgW s.data.toList]) := by
 subst hg
 exact tsign1 W T v l s h hl
def XC (d : Nat) (x : Nd) : Prop := ∀ (W : World) (T : Nat) (v : Value) (l : List Wd) (u : Value), NodeAt (· < T) W d u x → TG T W v [] W v l → l.length + (tellN x).length ≤ 1000000000 →
 Calls Tryz.prog 153 #[.pointer (some ⟨T, 0, none⟩), u] W (TellE T W v l (tellN x))
theorem TG.node {T : Nat} {w0 W : World} {v0 v : Value} {K : List (Nat × Obj)} {l : List Wd} {d : Nat} {u : Value} {x : Nd} (h : TG T w0 v0 K W v l) (hn : NodeAt (· < T) w0 d u x) : NodeAt (· < T) W d u x := by
 obtain ⟨nv, lv, e, h1, h2⟩ := hn
 exact ⟨nv, lv, e, h.txts h1, h.kids h2⟩
theorem TG.kid {T : Nat} {w0 W : World} {v0 v : Value} {K : List (Nat × Obj)} {l : List Wd} {d : Nat} {q : Option Addr} {c : Nat} {ks : List Nd} (h : TG T w0 v0 K W v l) (hk : KidsAt (· < T) w0 d (.slice q ks.length c) ks) {j : Nat} (hj : j < ks.length) :
  ∃ b o qn cn ql cl, q = some ⟨b, o, none⟩ ∧ b < W.heap.size ∧ W.cell? ⟨b, o + j * 6, none⟩ = some (.int .i64 ks[j].k) ∧ W.cell? ⟨b, o + j * 6 + 1, none⟩ = some (.string ks[j].name) ∧ W.cell? ⟨b, o + j * 6 + 2, none⟩ = some (.string ks[j].text) ∧
   W.cell? ⟨b, o + j * 6 + 3, none⟩ = some (.int .i64 ks[j].n) ∧ W.cell? ⟨b, o + j * 6 + 4, none⟩ = some (.slice qn ks[j].names.length cn) ∧ W.cell? ⟨b, o + j * 6 + 5, none⟩ = some (.slice ql ks[j].kids.length cl) ∧
   NodeAt (· < T) w0 (d - 1) (ndV ks[j] (.slice qn ks[j].names.length cn) (.slice ql ks[j].kids.length cl)) ks[j] := by
 obtain ⟨b, o, e, hb, h0, h1, h2, h3, qn, cn, ql, cl, h4, h5, h6, h7⟩ := hk.elem hj
 have hb' : b < T := hb
 have mv : ∀ {o : Nat} {x : Value}, w0.cell? ⟨b, o, none⟩ = some x → W.cell? ⟨b, o, none⟩ = some x := fun hc => (World.cell?_of_block (h.keep b (cell_lt hc) (by omega) (fun e => by have := (h.row0 b e).1; omega))).trans hc
 exact ⟨b, o, qn, cn, ql, cl, e, by have := h.lt; omega, mv h0, mv h1, mv h2, mv h3, mv h4, mv h5, _, _, rfl, h6, h7⟩
theorem TG.nbox {T : Nat} {w0 W : World} {v0 v : Value} {K : List (Nat × Obj)} {l : List Wd} {b : Nat} {x : Nd} {nv lv : Value} (h : TG T w0 v0 ((b, ndO x nv lv) :: K) W v l) :
  W.cell? ⟨b, 0, none⟩ = some (.int .i64 x.k) ∧ W.cell? ⟨b, 1, none⟩ = some (.string x.name) ∧ W.cell? ⟨b, 2, none⟩ = some (.string x.text) ∧ W.cell? ⟨b, 3, none⟩ = some (.int .i64 x.n) ∧ W.cell? ⟨b, 4, none⟩ = some nv ∧ W.cell? ⟨b, 5, none⟩ = some lv ∧ b < W.heap.size := by
 have hB : Blk W b 28 #[.int .i64 x.k, .string x.name, .string x.text, .int .i64 x.n, nv, lv] := (h.box _ (List.mem_cons_self ..)).2.1
 exact ⟨hB.cell 0, hB.cell 1, hB.cell 2, hB.cell 3, hB.cell 4, hB.cell 5, hB.lt⟩
theorem tinner_any (w : World) (T : Nat) (v : Value) (l : List Wd) (u : Value) (d : Nat) (x : Nd) (b : Bool) (hX : XC d x) (hn : NodeAt (· < T) w d u x) (h : TG T w v [] w v l) (hb : l.length + (innerT b (tellN x)).length ≤ 1000000000) :
  Calls Tryz.prog 211 #[.pointer (some ⟨T, 0, none⟩), u, .bool b] w (TellE T w v l (innerT b (tellN x))) := by
 have HBD := Lib.hid hb
 have HND := Lib.hid hn
 obtain ⟨qn, cn, ql, cl, rfl, _, _⟩ := hn.parts
 generalize x.names.length = nn at *
 generalize x.kids.length = kn at *
 have HS0 := Lib.hid (h.newK (ndO x (.slice qn nn cn) (.slice ql kn cl)))
 have l0 := h.blk.lt
 clear hn h hb
 cases b
 ·have HBB := Lib.hid (show l.length + (tellN x).length + 0 ≤ 1000000000 by have := HBD.out; simp [innerT] at this; omega)
  clear HBD
  go_enter Tryz.func211, Tryz.ntmps211
  go_wp2_with fail
  have hsz : (w.alloc (ndO x (.slice qn nn cn) (.slice ql kn cl))).heap.size = w.heap.size + 1 := size_alloc _ _
  generalize w.alloc (ndO x (.slice qn nn cn) (.slice ql kn cl)) = W0 at *
  refine (hX W0 T v l _ (HS0.out.node HND.out) HS0.out.self (by have := HBB.out; omega)).mono ?_
  rintro e w2 ⟨⟨_, rfl⟩, v2, S2⟩
  have HS2 := Lib.hid (HS0.out.call S2)
  clear S2
  go_wp2_with fail
  go_end0
  exact ⟨⟨_, rfl⟩, v2, by simpa [innerT] using HS2.out.nob⟩
 ·have HBB := Lib.hid (show l.length + (tellN x).length + 2 ≤ 1000000000 by have := HBD.out; simp [innerT] at this; omega)
  clear HBD
  go_enter Tryz.func211, Tryz.ntmps211
  go_wp2_with fail
  have hsz : (w.alloc (ndO x (.slice qn nn cn) (.slice ql kn cl))).heap.size = w.heap.size + 1 := size_alloc _ _
  generalize w.alloc (ndO x (.slice qn nn cn) (.slice ql kn cl)) = W0 at *
  refine (tsign1' W0 T v l ⟨#[40]⟩ HS0.out.self (by have := HBB.out; omega) _ hsz).mono ?_
  rintro e w1 ⟨⟨_, rfl⟩, v1, S1⟩
  have HS1 := Lib.hid (HS0.out.call S1)
  clear S1
  obtain ⟨b0, b1, b2, b3, b4, b5, bl⟩ := HS1.out.nbox
  go_wp2_with fail
  refine (hX w1 T v1 _ _ (HS1.out.node HND.out) HS1.out.self (by have := HBB.out; simp; omega)).mono ?_
  rintro e w2 ⟨⟨_, rfl⟩, v2, S2⟩
  have HS2 := Lib.hid (HS1.out.call S2)
  clear S2 b0 b1 b2 b3 b4 b5 bl
  go_wp2_with fail
  refine (tsign1 w2 T v2 _ ⟨#[41]⟩ HS2.out.self (by have := HBB.out; simp; omega)).mono ?_
  rintro e w3 ⟨⟨_, rfl⟩, v3, S3⟩
  have HS3 := Lib.hid (HS2.out.call S3)
  clear S3
  go_wp2_with fail
  go_end0
  exact ⟨⟨_, rfl⟩, v3, by simpa [innerT, sgW] using HS3.out.nob⟩
theorem tlist_any (w : World) (T : Nat) (v : Value) (l : List Wd) (u : Value) (d : Nat) (ks : List Nd) (hX : ∀ y ∈ ks, XC (d - 1) y) (hk : KidsAt (· < T) w d u ks) (h : TG T w v [] w v l) (hks : ks.length ≤ 140737488355328) (hl : l.length + (commaT (ks.map tellN)).length ≤ 1000000000) :
  Calls Tryz.prog 152 #[.pointer (some ⟨T, 0, none⟩), u] w (TellE T w v l (commaT (ks.map tellN))) := by
 obtain ⟨q, c, rfl⟩ := hk.slice
 have H := Lib.hid h
 obtain ⟨n, hn⟩ : ∃ n, ks.length = n := ⟨_, rfl⟩
 have HN := Lib.hid hn
 have HKS := Lib.hid hk
 rw [hn] at hks ⊢
 obtain ⟨M, hM⟩ : ∃ M, ks.map tellN = M := ⟨_, rfl⟩
 have hMl : M.length = n := by rw [← hM, List.length_map, hn]
 rw [hM] at hl ⊢
 have hpre : ∀ j, j < n → (commaT (M.take (j + 1))).length ≤ (commaT M).length := by
  intro j hj
  have : ∀ k, j + 1 + k ≤ n → (commaT (M.take (j + 1))).length ≤ (commaT (M.take (j + 1 + k))).length := by
   intro k
   induction k with
   | zero => intro _; exact Nat.le_refl _
   | succ k ih =>
    intro hk
    refine Nat.le_trans (ih (by omega)) ?_
    rw [show j + 1 + (k + 1) = (j + 1 + k) + 1 from rfl, commaT_take (l := M) (j := j + 1 + k) (by omega), if_neg (by omega)]
    simp
  have e := this (n - (j + 1)) (by omega)
  rw [show j + 1 + (n - (j + 1)) = n by omega, List.take_of_length_le (show M.length ≤ n by omega)] at e
  exact e
 have HM := Lib.hid hM
 have HML := Lib.hid hMl
 have HPRE := Lib.hid hpre
 have HX := Lib.hid hX
 have HL := Lib.hid hl
 clear h hk hn hM hMl hpre hX hl
 go_enter Tryz.func152, Tryz.ntmps152
 go_wp2_with fail
 go_loopw [8] (fun i wr => ∃ (j : Nat) (v' : Value), i = .int .i64 (j : Int) ∧ j ≤ n ∧ Hid (TG T w v [] wr v' (l ++ commaT (M.take j)))) (fun i _ => n - (intOf i).toNat)
 case atStart => exact ⟨0, v, rfl, Nat.zero_le _, Lib.hid (by simpa [commaT] using H.out)⟩
 case round =>
  obtain ⟨j, v', rfl, hj, HS⟩ := hrel
  by_cases hlt : j < n
  ·have jl : j < ks.length := by rw [HN.out]; exact hlt
   have jM : j < M.length := by rw [HML.out]; exact hlt
   obtain ⟨b, o, qn, cn, ql, cl, rfl, gw, c0, c1, c2, c3, c4, c5, hnd⟩ := HS.out.kid HKS.out jl
   have hT := commaT_take jM
   have hMj : M[j] = tellN ks[j] := by simp [← HM.out]
   rw [hMj] at hT
   have hX := HX.out ks[j] (List.getElem_mem jl)
   obtain ⟨y, hy⟩ : ∃ y, ks[j] = y := ⟨_, rfl⟩
   rw [hy] at c0 c1 c2 c3 c4 c5 hnd hT hX
   generalize y.names.length = yn at *
   generalize y.kids.length = yk at *
   have HND := Lib.hid hnd
   have HXY := Lib.hid hX
   have i0 : (0 : Int) ≤ (j : Int) := by omega
   have i1 : (j : Int) < (n : Int) := by omega
   have i2 : decide ((j : Int) < (n : Int)) = true := decide_eq_true i1
   have HT := Lib.hid hT
   have HB := Lib.hid (show l.length + (commaT (M.take (j + 1))).length ≤ 1000000000 by have := HPRE.out j hlt; have := HL.out; omega)
   have HS0 := Lib.hid (HS.out.newK (ndO y (.slice qn yn cn) (.slice ql yk cl)))
   clear hT hMj jM jl hy hnd hX
   by_cases hz : j = 0
   ·have i3 : decide ((0 : Int) < (j : Int)) = false := decide_eq_false (by omega)
    have i4 : decide (0 < j) = false := decide_eq_false (by omega)
    have HT2 := Lib.hid (show commaT (M.take (j + 1)) = tellN y by rw [HT.out, if_pos hz])
    have HE2 := Lib.hid (show commaT (M.take j) = [] by rw [hz]; rfl)
    clear hz HT
    go_wp2_with fail
    generalize wr.alloc (ndO y (.slice qn yn cn) (.slice ql yk cl)) = W0 at *
    clear c0 c1 c2 c3 c4 c5
    refine (HXY.out W0 T v' _ _ (HS0.out.node HND.out) HS0.out.self (by have := HB.out; rw [HT2.out] at this; rw [HE2.out]; simp; omega)).mono ?_
    rintro e w2 ⟨⟨_, rfl⟩, v2, S2⟩
    have HS2 := Lib.hid (show TG T w v [] w2 v2 (l ++ commaT (M.take (j + 1))) by
     have := (HS0.out.call S2).nob
     rw [HE2.out, List.append_nil] at this
     rw [HT2.out]
     exact this)
    clear S2
    go_wp2_with fail
    go_roundw
    case rel => exact ⟨j + 1, _, by go_num, hlt, HS2⟩
    case measure => simp [intOf]; omega
   ·have i3 : decide ((0 : Int) < (j : Int)) = true := decide_eq_true (by omega)
    have i4 : decide (0 < j) = true := decide_eq_true (by omega)
    have HT2 := Lib.hid (show commaT (M.take (j + 1)) = commaT (M.take j) ++ sgW [44] :: tellN y by rw [HT.out, if_neg hz])
    clear hz HT
    go_wp2_with fail
    have hsz : (wr.alloc (ndO y (.slice qn yn cn) (.slice ql yk cl))).heap.size = wr.heap.size + 1 := size_alloc _ _
    generalize wr.alloc (ndO y (.slice qn yn cn) (.slice ql yk cl)) = W0 at *
    clear c0 c1 c2 c3 c4 c5
    refine (tsign1' W0 T v' _ ⟨#[44]⟩ HS0.out.self (by have := HB.out; rw [HT2.out] at this; simp at this ⊢; omega) _ hsz).mono ?_
    rintro e w2 ⟨⟨_, rfl⟩, v2, S2⟩
    have HS2 := Lib.hid (HS0.out.call S2)
    clear S2
    obtain ⟨b0, b1, b2, b3, b4, b5, bl⟩ := HS2.out.nbox
    go_wp2_with fail
    refine (HXY.out w2 T v2 _ _ (HS2.out.node HND.out) HS2.out.self (by have := HB.out; rw [HT2.out] at this; simp at this ⊢; omega)).mono ?_
    rintro e w3 ⟨⟨_, rfl⟩, v3, S3⟩
    have HS3 := Lib.hid (show TG T w v [] w3 v3 (l ++ commaT (M.take (j + 1))) by
     have := (HS2.out.call S3).nob
     rw [HT2.out]
     simpa [List.append_assoc, sgW] using this)
    clear S3 b0 b1 b2 b3 b4 b5 bl
    go_wp2_with fail
    go_roundw
    case rel => exact ⟨j + 1, _, by go_num, hlt, HS3⟩
    case measure => simp [intOf]; omega
  ·obtain rfl : j = n := by omega
   have i2 : decide ((j : Int) < (j : Int)) = false := decide_eq_false (by omega)
   have HE := Lib.hid (show TG T w v [] wr v' (l ++ commaT M) by
    have := HS.out
    rw [List.take_of_length_le (by rw [HML.out]; exact Nat.le_refl _)] at this
    exact this)
   go_wp2_with fail
   go_end0
   exact ⟨⟨_, rfl⟩, _, HE.out⟩
end Go.Proofs.YtkbcnacjaakleaaGreatDoor
