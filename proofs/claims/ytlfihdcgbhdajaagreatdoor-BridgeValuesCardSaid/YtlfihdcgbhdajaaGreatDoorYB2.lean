/- How the program's heap lies, and what an operation on it leaves as it was. The table of a value. What is under a key. A value is put under a key. The heap behind a deed on one of its maps. -/
import Derived.Test.YtlfihdcgbhdajaaGreatDoorYB1
import Derived.Test.YtlfihdcgbhdajaaGreatDoorYA1
import Derived.StillTailTactics
import Derived.Laws.OwnMore
namespace Go.Proofs.YtlfihdcgbhdajaaGreatDoor
open Go.RowKit
set_option linter.unusedVariables false
set_option linter.unusedSimpArgs false

abbrev iKey (n : Int) : Value := .int .i64 n
def TbAt (w : World) (r : Nat × Nat) (T : Tb) : Prop := ∃ mi mt, IsMap iKey w r.1 (mmap Vl.v mi) ∧ IsMap Value.string w r.2 (mmap Vl.v mt) ∧ TRep mi mt T
abbrev rowOf (rs : List (Nat × Nat)) : List Value := rs.flatMap fun r => [Value.map (some r.1), Value.map (some r.2)]
abbrev mapsOf (rs : List (Nat × Nat)) : List Nat := rs.flatMap fun r => [r.1, r.2]
structure HeapIn (w : World) (g : Nat) (tv : Value) (rs : List (Nat × Nat)) (H : Hp) : Prop where
 head : HB w g tv H.cells H.spent
 row : w.ownsRow 0 75 2 tv H.tabs.length (rowOf rs)
 len : rs.length = H.tabs.length
 tabs : ∀ (i : Nat) (r : Nat × Nat) (T : Tb), rs[i]? = some r → H.tabs[i]? = some T → TbAt w r T
 apart : (mapsOf rs).Nodup
 ok : HOk H
def Foot (g : Nat) (tv : Value) (rs : List (Nat × Nat)) (k : Nat) : Prop := k = g ∨ tv.ownBlock = some k ∨ k ∈ mapsOf rs
structure Touch (F : Nat → Prop) (w w' : World) : Prop where
 os : w'.os = w.os
 tape : w'.tape = w.tape
 output : w'.output = w.output
 size : w.heap.size ≤ w'.heap.size
 block : ∀ k, k < w.heap.size → ¬ F k → w'.heap[k]? = w.heap[k]?
theorem Touch.refl (F : Nat → Prop) (w : World) : Touch F w w := ⟨rfl, rfl, rfl, Nat.le_refl _, fun _ _ _ => rfl⟩
theorem Touch.of_ext {F : Nat → Prop} {w w' : World} (h : Ext w w') : Touch F w w' := ⟨h.os, h.tape, h.output, h.size, fun k hk _ => h.block k hk⟩
theorem Touch.trans {F : Nat → Prop} {a b c : World} (h : Touch F a b) (k : Touch F b c) : Touch F a c :=
 ⟨k.os.trans h.os, k.tape.trans h.tape, k.output.trans h.output, Nat.le_trans h.size k.size, fun i hi hn => (k.block i (Nat.lt_of_lt_of_le hi h.size) hn).trans (h.block i hi hn)⟩
theorem Touch.transn {F G : Nat → Prop} {a b c : World} (h : Touch F a b) (k : Touch G b c) (hG : ∀ x, G x → F x ∨ a.heap.size ≤ x) : Touch F a c :=
 ⟨k.os.trans h.os, k.tape.trans h.tape, k.output.trans h.output, Nat.le_trans h.size k.size, fun i hi hn =>
  (k.block i (Nat.lt_of_lt_of_le hi h.size) (fun hg => by
   rcases hG i hg with h1 | h1
   ·exact hn h1
   ·omega)).trans (h.block i hi hn)⟩
theorem Touch.mono {F G : Nat → Prop} {w w' : World} (h : Touch F w w') (hF : ∀ x, F x → G x) : Touch G w w' := ⟨h.os, h.tape, h.output, h.size, fun k hk hn => h.block k hk (fun hf => hn (hF k hf))⟩
theorem Touch.ext {F : Nat → Prop} {a b c : World} (h : Touch F a b) (k : Ext b c) : Touch F a c := h.trans (.of_ext k)
theorem Touch.pre {F : Nat → Prop} {a b c : World} (h : Ext a b) (k : Touch F b c) : Touch F a c := (Touch.of_ext h).trans k
theorem Touch.le {F : Nat → Prop} {w w' : World} (h : Touch F w w') : w.heap.size ≤ w'.heap.size := h.size
theorem Touch.only {F : Nat → Prop} {g : Nat} {w w' : World} (h : Only g w w') (hg : F g) : Touch F w w' :=
 ⟨h.os, h.tape, h.output, h.size, fun k hk hn => h.block k hk (fun e => hn (by rw [Option.some.inj e]; exact hg))⟩
theorem Touch.mapped {F : Nat → Prop} {r : Nat} {w w' : World} (h : Mapped w w' r) (hr : F r) : Touch F w w' :=
 ⟨h.os, h.tape, h.output, Nat.le_of_eq h.size.symm, fun k hk hn => h.other k (fun e => hn (by rw [e]; exact hr))⟩
theorem Touch.cells {F : Nat → Prop} {w w' : World} (h : Touch F w w') : (∀ b o, b < w.heap.size → ¬ F b → w'.cell? ⟨b, o, none⟩ = w.cell? ⟨b, o, none⟩) ∧ (∀ b o, b < w.heap.size → ¬ F b → w'.frozen? ⟨b, o, none⟩ = w.frozen? ⟨b, o, none⟩) :=
 ⟨fun b _ hb hn => World.cell?_of_block (h.block b hb hn), fun b _ hb hn => World.frozen?_of_block (h.block b hb hn)⟩
theorem Touch.to_ext {F : Nat → Prop} {a w w' : World} (h : Touch F w w') (he : Ext a w) (hF : ∀ x, F x → a.heap.size ≤ x) : Ext a w' :=
 ⟨h.os.trans he.os, h.tape.trans he.tape, h.output.trans he.output, Nat.le_trans he.size h.size, fun i hi => (h.block i (Nat.lt_of_lt_of_le hi he.size) (fun hf => by have := hF i hf; omega)).trans (he.block i hi)⟩
theorem Touch.lt1 {F : Nat → Prop} {w w' : World} {o : Obj} (h : Touch F (w.alloc o) w') : w.heap.size < w'.heap.size := by
 have := h.le; rw [size_alloc] at this; omega
section
variable {w w' : World} {g : Nat} {tv : Value} {rs : List (Nat × Nat)} {H : Hp}
theorem HeapIn.of_heap (h : HeapIn w g tv rs H) (he : ∀ k, Foot g tv rs k → w'.heap[k]? = w.heap[k]?) : HeapIn w' g tv rs H := by
 refine ⟨(he g (.inl rfl)).trans h.head, ?_, h.len, fun i r T hr hT => ?_, h.apart, h.ok⟩
 ·obtain ⟨hl, hrow⟩ := h.row
  refine ⟨hl, ?_⟩
  rcases hrow with h1 | ⟨gb, cap, cur, e1, hb, hc, h2⟩
  ·exact .inl h1
  ·exact .inr ⟨gb, cap, cur, e1, hb, (he gb (.inr (.inl (by rw [e1]; rfl)))).trans hc, h2⟩
 ·obtain ⟨mi, mt, h1, h2, h3⟩ := h.tabs i r T hr hT
  have hm := List.mem_of_getElem? hr
  exact ⟨mi, mt, h1.of (he _ (.inr (.inr (List.mem_flatMap.2 ⟨r, hm, by simp⟩)))), h2.of (he _ (.inr (.inr (List.mem_flatMap.2 ⟨r, hm, by simp⟩)))), h3⟩
theorem HeapIn.mem (h : HeapIn w g tv rs H) {x : Nat} (hx : x ∈ mapsOf rs) : ∃ es c, w.heap[x]? = some (.map es c) := by
 obtain ⟨r, hr, hx⟩ := List.mem_flatMap.1 hx
 obtain ⟨i, hi⟩ := List.getElem?_of_mem hr
 have hil : i < H.tabs.length := by
  have := (List.getElem?_eq_some_iff.1 hi).1
  have := h.len
  omega
 obtain ⟨mi, mt, h1, h2, _⟩ := h.tabs i r _ hi (List.getElem?_eq_getElem hil)
 simp only [List.mem_cons, List.not_mem_nil, or_false] at hx
 rcases hx with rfl | rfl
 ·obtain ⟨es, c, hb, _⟩ := h1; exact ⟨es, c, hb⟩
 ·obtain ⟨es, c, hb, _⟩ := h2; exact ⟨es, c, hb⟩
theorem HeapIn.sort (h : HeapIn w g tv rs H) {x : Nat} (hx : Foot g tv rs x) : (∃ cs, w.heap[x]? = some (.cells cs 58 (0, 0))) ∨ (∃ cs, w.heap[x]? = some (.cells cs 75 (0, 0))) ∨ ∃ es c, w.heap[x]? = some (.map es c) := by
 rcases hx with rfl | hx | hx
 ·exact .inl ⟨_, h.head⟩
 ·obtain ⟨hl, hrow⟩ := h.row
  rcases hrow with ⟨h1, _⟩ | ⟨gb, cap, cur, e1, hb, hc, h2⟩
  ·rw [h1] at hx; simp [Value.ownBlock] at hx
  ·rw [e1] at hx
   obtain rfl := Option.some.inj hx
   exact .inr (.inl ⟨_, hc⟩)
 ·exact .inr (.inr (h.mem hx))
theorem HeapIn.low (h : HeapIn w g tv rs H) {x : Nat} (hx : Foot g tv rs x) : x < w.heap.size := by
 have : ∃ o, w.heap[x]? = some o := by
  rcases h.sort hx with ⟨cs, hc⟩ | ⟨cs, hc⟩ | ⟨es, c, hc⟩ <;> exact ⟨_, hc⟩
 obtain ⟨o, ho⟩ := this
 exact (Array.getElem?_eq_some_iff.1 ho).1
theorem HeapIn.ext (h : HeapIn w g tv rs H) (he : Ext w w') : HeapIn w' g tv rs H := h.of_heap fun k hk => he.block k (h.low hk)
theorem HeapIn.touch {F : Nat → Prop} (h : HeapIn w g tv rs H) (ht : Touch F w w') (hF : ∀ x, Foot g tv rs x → ¬ F x) : HeapIn w' g tv rs H := h.of_heap fun k hk => ht.block k (h.low hk) (hF k hk)
theorem HeapIn.far (h : HeapIn w g tv rs H) {p : Addr} (hp : w.heap.size ≤ p.block) (u : Value) : HeapIn (w.setCell p u) g tv rs H := h.of_heap fun k hk => Below.heap_setCell w p u k (by have := h.low hk; omega)
theorem HeapIn.alloc (h : HeapIn w g tv rs H) (o : Obj) : HeapIn (w.alloc o) g tv rs H := h.ext ((Ext.refl w).alloc o)
theorem HeapIn.hrow (h : HeapIn w g tv rs H) : tv.ownBlock ≠ some g := by
 intro e
 have h1 := h.head
 obtain ⟨hl, hrow⟩ := h.row
 rcases hrow with ⟨h2, _⟩ | ⟨gb, cap, cur, e1, hb, hc, h2⟩
 ·rw [h2] at e; simp [Value.ownBlock] at e
 ·rw [e1] at e
  obtain rfl : gb = g := Option.some.inj e
  unfold HB Blk at h1
  rw [hc] at h1
  have := Option.some.inj h1
  injection this with _ h3
  exact absurd h3 (by decide)
theorem HeapIn.hmap (h : HeapIn w g tv rs H) : g ∉ mapsOf rs := by
 intro e
 obtain ⟨es, c, hm⟩ := h.mem e
 have h1 := h.head
 unfold HB Blk at h1
 rw [hm] at h1
 cases Option.some.inj h1
theorem HeapIn.only (h : HeapIn w g tv rs H) (ho : Only g w w') (c s : Int) (hb : HB w' g tv c s) (hs : 0 ≤ s) (hc : s ≤ c) (hm : c ≤ 9223372036854775807) : HeapIn w' g tv rs ⟨H.tabs, c, s⟩ := by
 have hg : ∀ k, Foot g tv rs k → k ≠ g → w'.heap[k]? = w.heap[k]? := fun k hk hn => ho.block k (h.low hk) (fun e => hn (Option.some.inj e))
 refine ⟨hb, ?_, h.len, fun i r T hr hT => ?_, h.apart, ⟨h.ok.tab, hs, hc, hm⟩⟩
 ·obtain ⟨hl, hrow⟩ := h.row
  refine ⟨hl, ?_⟩
  rcases hrow with h1 | ⟨gb, cap, cur, e1, hb, hc, h2⟩
  ·exact .inl h1
  ·refine .inr ⟨gb, cap, cur, e1, hb, (hg gb (.inr (.inl (by rw [e1]; rfl))) ?_).trans hc, h2⟩
   rintro rfl
   exact h.hrow (by rw [e1]; rfl)
 ·obtain ⟨mi, mt, h1, h2, h3⟩ := h.tabs i r T hr hT
  have hm := List.mem_of_getElem? hr
  have m1 : r.1 ∈ mapsOf rs := List.mem_flatMap.2 ⟨r, hm, by simp⟩
  have m2 : r.2 ∈ mapsOf rs := List.mem_flatMap.2 ⟨r, hm, by simp⟩
  exact ⟨mi, mt, h1.of (hg _ (.inr (.inr m1)) (by rintro rfl; exact h.hmap m1)), h2.of (hg _ (.inr (.inr m2)) (by rintro rfl; exact h.hmap m2)), h3⟩
end
end Go.Proofs.YtlfihdcgbhdajaaGreatDoor
namespace Go.Proofs.YtlfihdcgbhdajaaGreatDoor
open Go.RowKit
set_option linter.unusedVariables false
set_option linter.unusedSimpArgs false

abbrev noTab : Value := .agg #[.map none, .map none]
abbrev tabA (r : Nat × Nat) : Value := .agg #[.map (some r.1), .map (some r.2)]
theorem checkV (v : Vl) (b : Bool) (hb : v.ck = b) (w : World) : Calls Tryz.prog 46 #[v.v] w fun e w' => e = .returned (.bool b) ∧ Ext w w' := by
 subst hb; exact check_any v.k v.n v.s w
theorem row_cells {w : World} {tv : Value} {n : Nat} {rs : List (Nat × Nat)} (h : w.ownsRow 0 75 2 tv n (rowOf rs)) (i : Nat) (r : Nat × Nat) (hr : rs[i]? = some r) :
  ∃ gb cap, tv = .slice (some ⟨gb, 0, none⟩) n cap ∧ w.cell? ⟨gb, i * 2, none⟩ = some (.map (some r.1)) ∧ w.cell? ⟨gb, i * 2 + 1, none⟩ = some (.map (some r.2)) := by
 obtain ⟨hl, hrow⟩ := h
 have hlen : ∀ l : List (Nat × Nat), (rowOf l).length = l.length * 2 := by
  intro l; induction l with
  | nil => rfl
  | cons x l ih => simp only [rowOf, List.flatMap_cons, List.length_append, List.length_cons, List.length_nil] at ih ⊢; omega
 have hget : ∀ (l : List (Nat × Nat)) (i : Nat) (r : Nat × Nat), l[i]? = some r → (rowOf l)[i * 2]? = some (.map (some r.1)) ∧ (rowOf l)[i * 2 + 1]? = some (.map (some r.2)) := by
  intro l; induction l with
  | nil => intro i r h; simp at h
  | cons x l ih =>
   intro i r h
   cases i with
   | zero => simp at h; subst h; exact ⟨rfl, rfl⟩
   | succ i =>
    have := ih i r (by simpa using h)
    have e : (i + 1) * 2 = i * 2 + 1 + 1 := by omega
    rw [e]
    simpa [rowOf] using this
 have hi : i < rs.length := (List.getElem?_eq_some_iff.1 hr).1
 rcases hrow with ⟨h1, h2⟩ | ⟨gb, cap, cur, e1, hb, hc, h2, h3, h4, h5⟩
 ·rw [hlen] at hl; omega
 ·obtain ⟨g1, g2⟩ := hget rs i r hr
  rw [← h5] at g1 g2
  rw [hlen] at hl
  rw [List.getElem?_take] at g1 g2
  split at g1
  ·split at g2
   ·refine ⟨gb, cap, e1, ?_, ?_⟩
    ·rw [cell_of_row w gb _ cur _ (0, 0) hc]; simpa using g1
    ·rw [cell_of_row w gb _ cur _ (0, 0) hc]; simpa using g2
   ·cases g2
  ·cases g1
set_option maxRecDepth 100000 in
theorem of_ok (g : Nat) (tv : Value) (rs : List (Nat × Nat)) (H : Hp) (t : Vl) (r : Nat × Nat) (w : World) (h : HeapIn w g tv rs H) (ho : ofW H t = sNone) (hr : rs[t.n.toNat]? = some r) (hlen : H.tabs.length ≤ 9223372036854775807) :
  Calls Tryz.prog 39 #[.pointer (some ⟨g, 0, none⟩), t.v] w fun e w' => e = .returned (.tuple #[tabA r, .string sNone]) ∧ Ext w w' := by
 obtain ⟨o1, o2, o3, o4, o5⟩ := ofW_none ho
 obtain ⟨gb, cap, e1, c1, c2⟩ := row_cells h.row _ r hr
 have hg := h.head.lt
 have c0 : w.cell? ⟨g, 0, none⟩ = some tv := h.head.cell 0
 have hgb : gb < w.heap.size := h.low (.inr (.inl (by rw [e1]; rfl)))
 rw [e1] at c0
 obtain ⟨k, n, s⟩ := t
 simp only at o1 o2 o3 o4 o5 c1 c2
 obtain ⟨i, rfl⟩ : ∃ i : Nat, n = i := ⟨n.toNat, by omega⟩
 subst o2
 rw [Int.toNat_natCast] at c1 c2 o5
 have hd : decide ((H.tabs.length : Int) ≤ (i : Int)) = false := by simp; omega
 clear ho hr e1 o4 h o3
 go_enter Tryz.func39, Tryz.ntmps39
 go_wp2_with fail
 refine wp_scope_fwd 0 rfl ?_
 go_wp2_with fail
 refine (checkV _ true o1 _).mono ?_
 rintro e w1 ⟨rfl, e1⟩
 have k1 := (((Ext.refl w).alloc _).alloc _).trans e1
 obtain ⟨z1, z2⟩ := e1.lt2
 obtain ⟨p1, p2⟩ := e1.cells
 go_wp2_with fail
 have y0 : w1.cell? ⟨g, 0, none⟩ = some (.slice (some ⟨gb, 0, none⟩) H.tabs.length cap) := (k1.cells.1 g 0 hg).trans c0
 have y1 : w1.cell? ⟨w.heap.size, 1, none⟩ = some (.int .i64 (i : Int)) := by rw [p1 _ _ (by simp; omega)]; simp
 have y2 : w1.cell? ⟨gb, i * 2, none⟩ = some (.map (some r.1)) := (k1.cells.1 gb _ hgb).trans c1
 have y3 : w1.cell? ⟨gb, i * 2 + 1, none⟩ = some (.map (some r.2)) := (k1.cells.1 gb _ hgb).trans c2
 have fz : w1.frozen? ⟨w.heap.size + 1, 0, none⟩ = false := by rw [p2 _ _ (by simp)]; simp
 have fz' : w1.frozen? ⟨w.heap.size + 1, 1, none⟩ = false := by rw [p2 _ _ (by simp)]; simp
 have uz : w1.cell? ⟨w.heap.size + 1, 0, none⟩ = some (.map none) := by rw [p1 _ _ (by simp)]; simp
 have uz' : w1.cell? ⟨w.heap.size + 1, 1, none⟩ = some (.map none) := by rw [p1 _ _ (by simp)]; simp
 clear p1 p2 c0 c1 c2
 go_quiet (fail)
 clear hd
 go_wp2_with fail
 have k2 := k1.drewN nq
 have z1' : w.heap.size < (w1.drewN nq).heap.size := z1
 have z2' : w.heap.size + 1 < (w1.drewN nq).heap.size := z2
 replace y0 : (w1.drewN nq).cell? _ = _ := y0
 replace y1 : (w1.drewN nq).cell? _ = _ := y1
 replace y2 : (w1.drewN nq).cell? _ = _ := y2
 replace y3 : (w1.drewN nq).cell? _ = _ := y3
 replace fz : (w1.drewN nq).frozen? _ = _ := fz
 replace fz' : (w1.drewN nq).frozen? _ = _ := fz'
 replace uz : (w1.drewN nq).cell? _ = _ := uz
 replace uz' : (w1.drewN nq).cell? _ = _ := uz'
 clear k1 z1 z2
 generalize w1.drewN nq = w2 at *
 have hb1 : (↑i : Int) < (↑H.tabs.length : Int) := by omega
 have x1 : ¬ w.heap.size = gb := by omega
 have x2 : ¬ w.heap.size + 1 = gb := by omega
 have x3 : gb < w.heap.size + 1 := by omega
 have x4 : gb < w.heap.size + 1 + 1 := by omega
 have x5 : g < w.heap.size + 1 := by omega
 have x6 : g < w.heap.size + 1 + 1 := by omega
 go_still_tail 8, (by kernel_rfl)
 change wpList _ _ _ _ _ w2.drew
 have k3 := k2.drew
 have z3 : w.heap.size < w2.drew.heap.size := z1'
 have z4 : w.heap.size + 1 < w2.drew.heap.size := z2'
 have f3 : w2.drew.frozen? ⟨w.heap.size + 1, 0, none⟩ = false := fz
 have f4 : w2.drew.frozen? ⟨w.heap.size + 1, 1, none⟩ = false := fz'
 have u3 : w2.drew.cell? ⟨w.heap.size + 1, 0, none⟩ = some (.map none) := uz
 have u4 : w2.drew.cell? ⟨w.heap.size + 1, 1, none⟩ = some (.map none) := uz'
 clear k2 z1' z2' fz fz' uz uz' y0 y1 y2 y3
 generalize w2.drew = w3 at *
 go_wp2_with fail
 simp only [Exit.jump]
 exact bodyPost_ret (v := .tuple #[tabA r, .string sNone]) (by simp [results, Tryz.results39, go_sem, sNone, *]) rfl ⟨rfl, by repeat (first | exact k3 | refine Ext.alloc ?_ _ | refine Ext.setCell ?_ (by simp <;> omega) _)⟩
theorem row_form {w : World} {tv : Value} {n : Nat} {xs : List Value} (h : w.ownsRow 0 75 2 tv n xs) : ∃ q cap, tv = .slice q n cap := by
 rcases h.2 with ⟨rfl, h0⟩ | ⟨g, cap, cur, rfl, _⟩
 ·exact ⟨none, 0, by rw [h0]⟩
 ·exact ⟨_, _, rfl⟩
set_option maxRecDepth 100000 in
theorem of_kind (p : Value) (t : Vl) (g : Nat) (w : World) (hp : p = .pointer (some ⟨g, 0, none⟩)) (hk : (t.ck && decide (t.k = 4)) = false) :
  Calls Tryz.prog 39 #[p, t.v] w fun e w' => e = .returned (.tuple #[noTab, .string sType]) ∧ Ext w w' := by
 subst hp
 obtain ⟨k, n, s⟩ := t
 rcases hc : (⟨k, n, s⟩ : Vl).ck with _ | _
 ·clear hk
  go_enter Tryz.func39, Tryz.ntmps39
  go_wp2_with fail
  refine wp_scope_fwd 0 rfl ?_
  go_wp2_with fail
  refine (checkV _ false hc _).mono ?_
  rintro e w1 ⟨rfl, e1⟩
  have k1 := (((Ext.refl w).alloc _).alloc _).trans e1
  obtain ⟨z1, z2⟩ := e1.lt2
  obtain ⟨p1, p2⟩ := e1.cells
  go_wp2_with fail
  go_step3
  refine ⟨rfl, ?_⟩
  show Code.wp _ _ _ _ _
  go_wp2_with fail
  rw [Exit.noGoto_ret]
  exact bodyPost_ret (v := .tuple #[noTab, .string sType]) (by simp [results, Tryz.results39, go_sem, sType, *]) rfl ⟨rfl, by repeat (first | exact k1 | exact k2 | refine Ext.alloc ?_ _ | refine Ext.setCell ?_ (by simp <;> omega) _)⟩
 ·have h4 : (k != 4) = true := by
   rw [hc, Bool.true_and] at hk
   simpa using hk
  clear hk
  go_enter Tryz.func39, Tryz.ntmps39
  go_wp2_with fail
  refine wp_scope_fwd 0 rfl ?_
  go_wp2_with fail
  refine (checkV _ true hc _).mono ?_
  rintro e w1 ⟨rfl, e1⟩
  have k1 := (((Ext.refl w).alloc _).alloc _).trans e1
  obtain ⟨z1, z2⟩ := e1.lt2
  obtain ⟨p1, p2⟩ := e1.cells
  go_wp2_with fail
  go_step3
  refine ⟨rfl, ?_⟩
  show Code.wp _ _ _ _ _
  go_wp2_with fail
  rw [Exit.noGoto_ret]
  exact bodyPost_ret (v := .tuple #[noTab, .string sType]) (by simp [results, Tryz.results39, go_sem, sType, *]) rfl ⟨rfl, by repeat (first | exact k1 | exact k2 | refine Ext.alloc ?_ _ | refine Ext.setCell ?_ (by simp <;> omega) _)⟩
set_option maxRecDepth 100000 in
theorem of_key (g : Nat) (tv : Value) (rs : List (Nat × Nat)) (H : Hp) (t : Vl) (w : World) (h : HeapIn w g tv rs H) (hc : t.ck = true) (h4 : t.k = 4) (hn : (H.tabs.length : Int) ≤ t.n) (hlen : H.tabs.length ≤ 9223372036854775807) :
  Calls Tryz.prog 39 #[.pointer (some ⟨g, 0, none⟩), t.v] w fun e w' => e = .returned (.tuple #[noTab, .string sKey]) ∧ Ext w w' := by
  obtain ⟨q, cap, e1⟩ := row_form h.row
  have hg := h.head.lt
  have c0 : w.cell? ⟨g, 0, none⟩ = some tv := h.head.cell 0
  rw [e1] at c0
  obtain ⟨k, n, s⟩ := t
  simp only at h4 hn
  subst h4
  have hd : decide ((H.tabs.length : Int) ≤ n) = true := by simp; omega
  clear e1 h
  go_enter Tryz.func39, Tryz.ntmps39
  go_wp2_with fail
  refine wp_scope_fwd 0 rfl ?_
  go_wp2_with fail
  refine (checkV _ true hc _).mono ?_
  rintro e w1 ⟨rfl, e1⟩
  have k1 := (((Ext.refl w).alloc _).alloc _).trans e1
  obtain ⟨z1, z2⟩ := e1.lt2
  obtain ⟨p1, p2⟩ := e1.cells
  go_wp2_with fail
  have y0 : w1.cell? ⟨g, 0, none⟩ = some (.slice q H.tabs.length cap) := (k1.cells.1 g 0 hg).trans c0
  have y1 : w1.cell? ⟨w.heap.size, 1, none⟩ = some (.int .i64 n) := by rw [p1 _ _ (by simp; omega)]; simp
  have fz : w1.frozen? ⟨w.heap.size + 1, 0, none⟩ = false := by rw [p2 _ _ (by simp)]; simp
  have fz' : w1.frozen? ⟨w.heap.size + 1, 1, none⟩ = false := by rw [p2 _ _ (by simp)]; simp
  have uz : w1.cell? ⟨w.heap.size + 1, 0, none⟩ = some (.map none) := by rw [p1 _ _ (by simp)]; simp
  have uz' : w1.cell? ⟨w.heap.size + 1, 1, none⟩ = some (.map none) := by rw [p1 _ _ (by simp)]; simp
  clear p1 p2 c0
  go_quiet (fail)
  clear hd
  have k2 := k1.drewN nq
  go_wp2_with fail
  go_step3
  refine ⟨rfl, ?_⟩
  show Code.wp _ _ _ _ _
  go_wp2_with fail
  rw [Exit.noGoto_ret]
  exact bodyPost_ret (v := .tuple #[noTab, .string sKey]) (by simp [results, Tryz.results39, go_sem, sKey, *]) rfl ⟨rfl, by repeat (first | exact k1 | exact k2 | refine Ext.alloc ?_ _ | refine Ext.setCell ?_ (by simp <;> omega) _)⟩
end Go.Proofs.YtlfihdcgbhdajaaGreatDoor
namespace Go.Proofs.YtlfihdcgbhdajaaGreatDoor
open Go.RowKit
set_option linter.unusedVariables false
set_option linter.unusedSimpArgs false

theorem of_any (g : Nat) (tv : Value) (rs : List (Nat × Nat)) (H : Hp) (t : Vl) (hr : rs.length = H.tabs.length) (hlen : H.tabs.length ≤ 9223372036854775807) :
  ∃ x y, (ofW H t = sNone → ∃ r, rs[t.n.toNat]? = some r ∧ x = some r.1 ∧ y = some r.2) ∧ ∀ w, HeapIn w g tv rs H →
   Calls Tryz.prog 39 #[.pointer (some ⟨g, 0, none⟩), t.v] w fun e w' => e = .returned (.tuple #[.agg #[.map x, .map y], .string (ofW H t)]) ∧ Ext w w' := by
 by_cases ho : ofW H t = sNone
 ·obtain ⟨o1, o2, o3, o4, o5⟩ := ofW_none ho
  have hi : t.n.toNat < rs.length := by omega
  refine ⟨some rs[t.n.toNat].1, some rs[t.n.toNat].2, fun _ => ⟨_, List.getElem?_eq_getElem hi, rfl, rfl⟩, fun w h => ?_⟩
  rw [ho]
  exact of_ok g tv rs H t _ w h ho (List.getElem?_eq_getElem hi) hlen
 ·refine ⟨none, none, fun h => absurd h ho, fun w h => ?_⟩
  by_cases hc : (t.ck && decide (t.k = 4)) = true
  ·have e : ofW H t = sKey := by
    unfold ofW at ho ⊢
    rw [if_pos hc] at ho ⊢
    split
    ·rename_i h2; rw [if_pos h2] at ho; exact absurd rfl ho
    ·rfl
   have hn : (H.tabs.length : Int) ≤ t.n := by
    unfold ofW at ho
    rw [if_pos hc] at ho
    split at ho
    ·exact absurd rfl ho
    ·omega
   simp only [Bool.and_eq_true, decide_eq_true_eq] at hc
   rw [e]
   exact of_key g tv rs H t w h hc.1 hc.2 hn hlen
  ·have e : ofW H t = sType := by unfold ofW; rw [if_neg hc]
   rw [e]
   exact of_kind _ t g w rfl (by simpa using hc)
theorem look_i {w : World} {r : Nat} {mi : List (Int × Vl)} (h : IsMap iKey w r (mmap Vl.v mi)) (n : Int) :
  (Instr.lookup 72 (.map (some r)) (.int .i64 n) false).run Tryz.prog w = .ok ((mget mi n).getD Vl.zero).v w := by
 have hz : (zeroValue 34).run Tryz.prog w = .ok Vl.zero.v w := by kernel_rfl
 cases hm : mget mi n with
 | none => exact run_mget_none (keyed_int .i64) Tryz.underlying72 Tryz.underlying2 h n _ hz (by rw [mget_map, hm]; rfl) false
 | some v => exact run_mget (keyed_int .i64) Tryz.underlying72 Tryz.underlying2 h n v.v (by rw [mget_map, hm]; rfl) false
theorem look_t {w : World} {r : Nat} {mt : List (ByteArray × Vl)} (h : IsMap Value.string w r (mmap Vl.v mt)) (s : ByteArray) :
  (Instr.lookup 73 (.map (some r)) (.string s) false).run Tryz.prog w = .ok ((mget mt s).getD Vl.zero).v w := by
 have hz : (zeroValue 34).run Tryz.prog w = .ok Vl.zero.v w := by kernel_rfl
 cases hm : mget mt s with
 | none => exact run_mget_none keyed_str Tryz.underlying73 Tryz.underlying9 h s _ hz (by rw [mget_map, hm]; rfl) false
 | some v => exact run_mget keyed_str Tryz.underlying73 Tryz.underlying9 h s v.v (by rw [mget_map, hm]; rfl) false
set_option maxRecDepth 100000 in
theorem get_type (g : Nat) (tv : Value) (rs : List (Nat × Nat)) (H : Hp) (t k : Vl) (w : World) (h : HeapIn w g tv rs H) (hlen : H.tabs.length ≤ 9223372036854775807) (hk : k.ck = false) :
  Calls Tryz.prog 14 #[.pointer (some ⟨g, 0, none⟩), t.v, k.v] w fun e w' => e = .returned (.tuple #[Vl.zero.v, .string sType]) ∧ Ext w w' := by
 obtain ⟨x, y, hxy, ho⟩ := of_any g tv rs H t h.len hlen
 clear hxy
 have HI := Lib.hid h
 clear h
 go_enter Tryz.func14, Tryz.ntmps14
 go_wp2_with fail
 refine (ho _ (((HI.out.alloc _).alloc _).alloc _)).mono ?_
 rintro e w1 ⟨rfl, e1⟩
 have k1 := ((((Ext.refl w).alloc _).alloc _).alloc _).trans e1
 obtain ⟨z1, z2, z3⟩ := e1.lt3
 obtain ⟨p1, p2⟩ := e1.cells
 clear ho
 go_wp2_with fail
 refine (checkV _ false hk _).mono ?_
 rintro e w2 ⟨rfl, e2⟩
 have k2 := (k1.alloc _).trans e2
 have y1 := e2.lt1
 have y2 : w.heap.size < w2.heap.size := by omega
 have y3 : w.heap.size + 1 < w2.heap.size := by omega
 have y4 : w.heap.size + 2 < w2.heap.size := by omega
 obtain ⟨q1, q2⟩ := e2.cells
 clear e1 e2 HI
 go_wp2_with fail
 exact bodyPost_ret (v := .tuple #[Vl.zero.v, .string sType]) (by simp [results, Tryz.results14, go_sem, Vl.zero, sType, *]) rfl ⟨rfl, by repeat (first | exact k2 | refine Ext.alloc ?_ _ | refine Ext.setCell ?_ (by simp <;> omega) _)⟩
set_option maxRecDepth 100000 in
theorem get_why (g : Nat) (tv : Value) (rs : List (Nat × Nat)) (H : Hp) (t k : Vl) (w : World) (h : HeapIn w g tv rs H) (hlen : H.tabs.length ≤ 9223372036854775807) (hk : k.ck = true) (hw : ¬ (ofW H t).toList = []) :
  Calls Tryz.prog 14 #[.pointer (some ⟨g, 0, none⟩), t.v, k.v] w fun e w' => e = .returned (.tuple #[Vl.zero.v, .string (ofW H t)]) ∧ Ext w w' := by
 obtain ⟨x, y, hxy, ho⟩ := of_any g tv rs H t h.len hlen
 clear hxy
 have hw' : (ofW H t).toList.isEmpty = false := by simpa using hw
 generalize ofW H t = o at *
 have HI := Lib.hid h
 clear h
 go_enter Tryz.func14, Tryz.ntmps14
 go_wp2_with fail
 refine (ho _ (((HI.out.alloc _).alloc _).alloc _)).mono ?_
 rintro e w1 ⟨rfl, e1⟩
 have k1 := ((((Ext.refl w).alloc _).alloc _).alloc _).trans e1
 obtain ⟨z1, z2, z3⟩ := e1.lt3
 obtain ⟨p1, p2⟩ := e1.cells
 clear ho
 go_wp2_with fail
 refine (checkV _ true hk _).mono ?_
 rintro e w2 ⟨rfl, e2⟩
 have k2 := (k1.alloc _).trans e2
 have y1 := e2.lt1
 have y2 : w.heap.size < w2.heap.size := by omega
 have y3 : w.heap.size + 1 < w2.heap.size := by omega
 have y4 : w.heap.size + 2 < w2.heap.size := by omega
 obtain ⟨q1, q2⟩ := e2.cells
 clear e1 e2 HI
 go_wp2_with fail
 exact bodyPost_ret (v := .tuple #[Vl.zero.v, .string o]) (by simp [results, Tryz.results14, go_sem, Vl.zero, *]) rfl ⟨rfl, by repeat (first | exact k2 | refine Ext.alloc ?_ _ | refine Ext.setCell ?_ (by simp <;> omega) _)⟩
set_option maxRecDepth 100000 in
theorem get_key (g : Nat) (tv : Value) (rs : List (Nat × Nat)) (H : Hp) (t k : Vl) (w : World) (h : HeapIn w g tv rs H) (hlen : H.tabs.length ≤ 9223372036854775807) (hk : k.ck = true) (hn : ofW H t = sNone) (h2 : ¬ k.k = 2) (h3 : ¬ k.k = 3) :
  Calls Tryz.prog 14 #[.pointer (some ⟨g, 0, none⟩), t.v, k.v] w fun e w' => e = .returned (.tuple #[Vl.zero.v, .string sKey]) ∧ Ext w w' := by
 obtain ⟨x, y, hxy, ho⟩ := of_any g tv rs H t h.len hlen
 clear hxy
 have hs0 := sNone_list
 have hs1 : sNone.toList.isEmpty = true := by rw [hs0]; rfl
 rw [hn] at ho
 clear hn
 have h2' : (k.k == 2) = false := by simpa using h2
 have h3' : (k.k == 3) = false := by simpa using h3
 have HI := Lib.hid h
 clear h
 go_enter Tryz.func14, Tryz.ntmps14
 go_wp2_with fail
 refine (ho _ (((HI.out.alloc _).alloc _).alloc _)).mono ?_
 rintro e w1 ⟨rfl, e1⟩
 have k1 := ((((Ext.refl w).alloc _).alloc _).alloc _).trans e1
 obtain ⟨z1, z2, z3⟩ := e1.lt3
 obtain ⟨p1, p2⟩ := e1.cells
 clear ho
 go_wp2_with fail
 refine (checkV _ true hk _).mono ?_
 rintro e w2 ⟨rfl, e2⟩
 have k2 := (k1.alloc _).trans e2
 have y1 := e2.lt1
 have y2 : w.heap.size < w2.heap.size := by omega
 have y3 : w.heap.size + 1 < w2.heap.size := by omega
 have y4 : w.heap.size + 2 < w2.heap.size := by omega
 obtain ⟨q1, q2⟩ := e2.cells
 clear e1 e2 HI
 go_wp2_with fail
 exact bodyPost_ret (v := .tuple #[Vl.zero.v, .string sKey]) (by simp [results, Tryz.results14, go_sem, Vl.zero, sKey, *]) rfl ⟨rfl, by repeat (first | exact k2 | refine Ext.alloc ?_ _ | refine Ext.setCell ?_ (by simp <;> omega) _)⟩
set_option maxRecDepth 100000 in
theorem get_int (g : Nat) (tv : Value) (rs : List (Nat × Nat)) (H : Hp) (t k : Vl) (w : World) (h : HeapIn w g tv rs H) (hlen : H.tabs.length ≤ 9223372036854775807) (hk : k.ck = true) (hn : ofW H t = sNone) (h2 : k.k = 2) (hK : KOk k) :
  Calls Tryz.prog 14 #[.pointer (some ⟨g, 0, none⟩), t.v, k.v] w fun e w' => e = .returned (.tuple #[(tget (tabOf H t) k).v, .string sNone]) ∧ Ext w w' := by
 obtain ⟨x, y, hxy, ho⟩ := of_any g tv rs H t h.len hlen
 obtain ⟨r, hr, rfl, rfl⟩ := hxy hn
 obtain ⟨o1, o2, o3, o4, o5⟩ := ofW_none hn
 have HT := Lib.hid (tabOf_get o5)
 have HR := Lib.hid hr
 clear hxy hr o1 o2 o3 o4 o5
 have hs0 := sNone_list
 have hs1 : sNone.toList.isEmpty = true := by rw [hs0]; rfl
 rw [hn] at ho
 clear hn
 have HF := Lib.hid hK.form
 clear hK
 obtain ⟨kk, kn, ks⟩ := k
 simp only at h2
 subst h2
 have HI := Lib.hid h
 clear h
 go_enter Tryz.func14, Tryz.ntmps14
 go_wp2_with fail
 refine (ho _ (((HI.out.alloc _).alloc _).alloc _)).mono ?_
 rintro e w1 ⟨rfl, e1⟩
 have k1 := ((((Ext.refl w).alloc _).alloc _).alloc _).trans e1
 obtain ⟨z1, z2, z3⟩ := e1.lt3
 obtain ⟨p1, p2⟩ := e1.cells
 clear ho
 go_wp2_with fail
 refine (checkV _ true hk _).mono ?_
 rintro e w2 ⟨rfl, e2⟩
 have k2 := (k1.alloc _).trans e2
 have y1 := e2.lt1
 have y2 : w.heap.size < w2.heap.size := by omega
 have y3 : w.heap.size + 1 < w2.heap.size := by omega
 have y4 : w.heap.size + 2 < w2.heap.size := by omega
 obtain ⟨q1, q2⟩ := e2.cells
 obtain ⟨mi, mt, him, hmt, hrep⟩ := (HI.out.ext k2).tabs _ _ _ HR.out HT.out
 have hl := look_i him kn
 obtain ⟨u, hu⟩ : ∃ u, u = (mget mi kn).getD Vl.zero := ⟨_, rfl⟩
 rw [← hu] at hl
 have hres : tget (tabOf H t) ⟨2, kn, ks⟩ = u := by
  rcases HF.out with ⟨e, h⟩ | ⟨e, h⟩
  ·rw [h]; unfold tget; rw [hrep.ints, hu]
  ·cases e
 have HS := Lib.hid hres
 clear him hmt hrep hu hres HT HR HF
 clear e1 e2 HI
 go_wp2_with fail
 exact bodyPost_ret (v := .tuple #[u.v, .string sNone]) (by simp [results, Tryz.results14, go_sem, sNone, *]) rfl ⟨ret2_of ⟨by rw [HS.out], rfl⟩, by repeat (first | exact k2 | refine Ext.alloc ?_ _ | refine Ext.setCell ?_ (by simp <;> omega) _)⟩
set_option maxRecDepth 100000 in
theorem get_text (g : Nat) (tv : Value) (rs : List (Nat × Nat)) (H : Hp) (t k : Vl) (w : World) (h : HeapIn w g tv rs H) (hlen : H.tabs.length ≤ 9223372036854775807) (hk : k.ck = true) (hn : ofW H t = sNone) (h2 : k.k = 3) (hK : KOk k) :
  Calls Tryz.prog 14 #[.pointer (some ⟨g, 0, none⟩), t.v, k.v] w fun e w' => e = .returned (.tuple #[(tget (tabOf H t) k).v, .string sNone]) ∧ Ext w w' := by
 obtain ⟨x, y, hxy, ho⟩ := of_any g tv rs H t h.len hlen
 obtain ⟨r, hr, rfl, rfl⟩ := hxy hn
 obtain ⟨o1, o2, o3, o4, o5⟩ := ofW_none hn
 have HT := Lib.hid (tabOf_get o5)
 have HR := Lib.hid hr
 clear hxy hr o1 o2 o3 o4 o5
 have hs0 := sNone_list
 have hs1 : sNone.toList.isEmpty = true := by rw [hs0]; rfl
 rw [hn] at ho
 clear hn
 have HF := Lib.hid hK.form
 clear hK
 obtain ⟨kk, kn, ks⟩ := k
 simp only at h2
 subst h2
 have HI := Lib.hid h
 clear h
 go_enter Tryz.func14, Tryz.ntmps14
 go_wp2_with fail
 refine (ho _ (((HI.out.alloc _).alloc _).alloc _)).mono ?_
 rintro e w1 ⟨rfl, e1⟩
 have k1 := ((((Ext.refl w).alloc _).alloc _).alloc _).trans e1
 obtain ⟨z1, z2, z3⟩ := e1.lt3
 obtain ⟨p1, p2⟩ := e1.cells
 clear ho
 go_wp2_with fail
 refine (checkV _ true hk _).mono ?_
 rintro e w2 ⟨rfl, e2⟩
 have k2 := (k1.alloc _).trans e2
 have y1 := e2.lt1
 have y2 : w.heap.size < w2.heap.size := by omega
 have y3 : w.heap.size + 1 < w2.heap.size := by omega
 have y4 : w.heap.size + 2 < w2.heap.size := by omega
 obtain ⟨q1, q2⟩ := e2.cells
 obtain ⟨mi, mt, him, hmt, hrep⟩ := (HI.out.ext k2).tabs _ _ _ HR.out HT.out
 have hl := look_t hmt ks
 obtain ⟨u, hu⟩ : ∃ u, u = (mget mt ks).getD Vl.zero := ⟨_, rfl⟩
 rw [← hu] at hl
 have hres : tget (tabOf H t) ⟨3, kn, ks⟩ = u := by
  rcases HF.out with ⟨e, h⟩ | ⟨e, h⟩
  ·cases e
  ·rw [h]; unfold tget; rw [hrep.texts, hu]
 have HS := Lib.hid hres
 clear him hmt hrep hu hres HT HR HF
 clear e1 e2 HI
 go_wp2_with fail
 exact bodyPost_ret (v := .tuple #[u.v, .string sNone]) (by simp [results, Tryz.results14, go_sem, sNone, *]) rfl ⟨ret2_of ⟨by rw [HS.out], rfl⟩, by repeat (first | exact k2 | refine Ext.alloc ?_ _ | refine Ext.setCell ?_ (by simp <;> omega) _)⟩
theorem get_any (g : Nat) (tv : Value) (rs : List (Nat × Nat)) (H : Hp) (t k : Vl) (w : World) (h : HeapIn w g tv rs H) (hlen : H.tabs.length ≤ 9223372036854775807) (hk : in64 k.n) :
  Calls Tryz.prog 14 #[.pointer (some ⟨g, 0, none⟩), t.v, k.v] w fun e w' => e = .returned (.tuple #[(getV H t k).v, .string (getW H t k)]) ∧ Ext w w' := by
 cases hc : k.ck with
 | false =>
  have e : getW H t k = sType := by unfold getW; rw [hc]; rfl
  have e2 : getV H t k = Vl.zero := by unfold getV; rw [if_neg (by rw [e]; exact sNone_ne.2.1)]
  rw [e, e2]
  exact get_type g tv rs H t k w h hlen hc
 | true =>
  by_cases hn : ofW H t = sNone
  ·by_cases h2 : k.k = 2
   ·have e : getW H t k = sNone := by unfold getW; rw [hc, if_pos rfl, if_pos hn, if_pos (.inl h2)]
    have e2 : getV H t k = tget (tabOf H t) k := by unfold getV; rw [if_pos e]
    rw [e, e2]
    exact get_int g tv rs H t k w h hlen hc hn h2 ⟨hc, .inl h2, hk⟩
   ·by_cases h3 : k.k = 3
    ·have e : getW H t k = sNone := by unfold getW; rw [hc, if_pos rfl, if_pos hn, if_pos (.inr h3)]
     have e2 : getV H t k = tget (tabOf H t) k := by unfold getV; rw [if_pos e]
     rw [e, e2]
     exact get_text g tv rs H t k w h hlen hc hn h3 ⟨hc, .inr h3, hk⟩
    ·have e : getW H t k = sKey := by unfold getW; rw [hc, if_pos rfl, if_pos hn, if_neg (by simp [h2, h3])]
     have e2 : getV H t k = Vl.zero := by unfold getV; rw [if_neg (by rw [e]; exact sNone_ne.1)]
     rw [e, e2]
     exact get_key g tv rs H t k w h hlen hc hn h2 h3
  ·have e : getW H t k = ofW H t := by unfold getW; rw [hc, if_pos rfl, if_neg hn]
   have e2 : getV H t k = Vl.zero := by unfold getV; rw [if_neg (by rw [e]; exact hn)]
   rw [e, e2]
   exact get_why g tv rs H t k w h hlen hc (fun hl => hn (toList_nil hl))
end Go.Proofs.YtlfihdcgbhdajaaGreatDoor
namespace Go.Proofs.YtlfihdcgbhdajaaGreatDoor
open Go.RowKit
set_option linter.unusedVariables false
set_option linter.unusedSimpArgs false

def iPut (mi : List (Int × Vl)) (n : Int) (v : Vl) : List (Int × Vl) := if v.k = 0 then mdel mi n else mput mi n v
def tPut (mt : List (ByteArray × Vl)) (s : ByteArray) (v : Vl) : List (ByteArray × Vl) := if v.k = 0 then mdel mt s else mput mt s v
theorem puti_no (r : Nat) (mm : List (Int × Vl)) (n : Int) (v : Vl) (w : World) (h : IsMap iKey w r (mmap Vl.v mm)) (hv : v.k = 0) :
  Calls Tryz.prog 51 #[.map (some r), (.int .i64 n), v.v] w fun e w' => e = .returned (.tuple #[]) ∧ IsMap iKey w' r (mmap Vl.v (mdel mm n)) ∧ Touch (· = r) w w' := by
 obtain ⟨k, vn, vs⟩ := v
 have hb : (k == 0) = true := by simpa using hv
 have h1 : IsMap iKey (w.alloc (.cells #[.int .i64 k, .int .i64 vn, .string vs] 34)) r (mmap Vl.v mm) := h.of (((Ext.refl w).alloc _).block _ h.lt)
 clear hv h
 go_enter Tryz.func51, Tryz.ntmps51
 go_wp2_with ((with_reducible refine wpList_mdel rfl _ _ _ rfl (keyed_int .i64) Tryz.underlying72 Tryz.underlying2 r n rfl rfl h1 ?_); intro w1 m1 t1)
 first | go_end0 | refine bodyPost_ret (results_none rfl _ _ _) rfl ?_
 exact ⟨rfl, by rw [mdel_map] at m1; exact m1, Touch.pre ((Ext.refl w).alloc _) (Touch.mapped t1 rfl)⟩
theorem puti_yes (r : Nat) (mm : List (Int × Vl)) (n : Int) (v : Vl) (w : World) (h : IsMap iKey w r (mmap Vl.v mm)) (hv : ¬ v.k = 0) :
  Calls Tryz.prog 51 #[.map (some r), (.int .i64 n), v.v] w fun e w' => e = .returned (.tuple #[]) ∧ IsMap iKey w' r (mmap Vl.v (mput mm n v)) ∧ Touch (· = r) w w' := by
 obtain ⟨k, vn, vs⟩ := v
 have hb : (k == 0) = false := by simpa using hv
 have h1 : IsMap iKey (w.alloc (.cells #[.int .i64 k, .int .i64 vn, .string vs] 34)) r (mmap Vl.v mm) := h.of (((Ext.refl w).alloc _).block _ h.lt)
 clear hv h
 go_enter Tryz.func51, Tryz.ntmps51
 go_wp2_with ((with_reducible refine wpList_mput rfl _ _ _ _ rfl (keyed_int .i64) Tryz.underlying72 Tryz.underlying2 r n _ rfl rfl rfl h1 ?_); intro w1 m1 t1)
 first | go_end0 | refine bodyPost_ret (results_none rfl _ _ _) rfl ?_
 exact ⟨rfl, by rw [← mput_map]; exact m1, Touch.pre ((Ext.refl w).alloc _) (Touch.mapped t1 rfl)⟩
theorem putt_no (r : Nat) (mm : List (ByteArray × Vl)) (n : ByteArray) (v : Vl) (w : World) (h : IsMap Value.string w r (mmap Vl.v mm)) (hv : v.k = 0) :
  Calls Tryz.prog 52 #[.map (some r), (.string n), v.v] w fun e w' => e = .returned (.tuple #[]) ∧ IsMap Value.string w' r (mmap Vl.v (mdel mm n)) ∧ Touch (· = r) w w' := by
 obtain ⟨k, vn, vs⟩ := v
 have hb : (k == 0) = true := by simpa using hv
 have h1 : IsMap Value.string (w.alloc (.cells #[.int .i64 k, .int .i64 vn, .string vs] 34)) r (mmap Vl.v mm) := h.of (((Ext.refl w).alloc _).block _ h.lt)
 clear hv h
 go_enter Tryz.func52, Tryz.ntmps52
 go_wp2_with ((with_reducible refine wpList_mdel rfl _ _ _ rfl keyed_str Tryz.underlying73 Tryz.underlying9 r n rfl rfl h1 ?_); intro w1 m1 t1)
 first | go_end0 | refine bodyPost_ret (results_none rfl _ _ _) rfl ?_
 exact ⟨rfl, by rw [mdel_map] at m1; exact m1, Touch.pre ((Ext.refl w).alloc _) (Touch.mapped t1 rfl)⟩
theorem putt_yes (r : Nat) (mm : List (ByteArray × Vl)) (n : ByteArray) (v : Vl) (w : World) (h : IsMap Value.string w r (mmap Vl.v mm)) (hv : ¬ v.k = 0) :
  Calls Tryz.prog 52 #[.map (some r), (.string n), v.v] w fun e w' => e = .returned (.tuple #[]) ∧ IsMap Value.string w' r (mmap Vl.v (mput mm n v)) ∧ Touch (· = r) w w' := by
 obtain ⟨k, vn, vs⟩ := v
 have hb : (k == 0) = false := by simpa using hv
 have h1 : IsMap Value.string (w.alloc (.cells #[.int .i64 k, .int .i64 vn, .string vs] 34)) r (mmap Vl.v mm) := h.of (((Ext.refl w).alloc _).block _ h.lt)
 clear hv h
 go_enter Tryz.func52, Tryz.ntmps52
 go_wp2_with ((with_reducible refine wpList_mput rfl _ _ _ _ rfl keyed_str Tryz.underlying73 Tryz.underlying9 r n _ rfl rfl rfl h1 ?_); intro w1 m1 t1)
 first | go_end0 | refine bodyPost_ret (results_none rfl _ _ _) rfl ?_
 exact ⟨rfl, by rw [← mput_map]; exact m1, Touch.pre ((Ext.refl w).alloc _) (Touch.mapped t1 rfl)⟩
end Go.Proofs.YtlfihdcgbhdajaaGreatDoor
namespace Go.Proofs.YtlfihdcgbhdajaaGreatDoor
open Go.RowKit
set_option linter.unusedVariables false
set_option linter.unusedSimpArgs false

theorem apart_ne : ∀ {rs : List (Nat × Nat)}, (mapsOf rs).Nodup → ∀ {i j : Nat} {r q : Nat × Nat}, rs[i]? = some r → rs[j]? = some q →
  (i ≠ j → r.1 ≠ q.1 ∧ r.1 ≠ q.2 ∧ r.2 ≠ q.1 ∧ r.2 ≠ q.2) ∧ r.1 ≠ r.2
 | [], _, i, j, r, q, h, _ => by simp at h
 | x :: rs, hn, i, j, r, q, hr, hq => by
  have hn' : ([x.1, x.2] ++ mapsOf rs).Nodup := hn
  rw [List.nodup_append] at hn'
  obtain ⟨n1, n2, n3⟩ := hn'
  have hx : x.1 ≠ x.2 := by simpa using n1
  have far : ∀ {k : Nat} {p : Nat × Nat}, rs[k]? = some p → x.1 ≠ p.1 ∧ x.1 ≠ p.2 ∧ x.2 ≠ p.1 ∧ x.2 ≠ p.2 := by
   intro k p hp
   have hm := List.mem_of_getElem? hp
   have m1 : p.1 ∈ mapsOf rs := List.mem_flatMap.2 ⟨p, hm, by simp⟩
   have m2 : p.2 ∈ mapsOf rs := List.mem_flatMap.2 ⟨p, hm, by simp⟩
   exact ⟨n3 _ (by simp) _ m1, n3 _ (by simp) _ m2, n3 _ (by simp) _ m1, n3 _ (by simp) _ m2⟩
  cases i with
  | zero =>
   obtain rfl : x = r := by simpa using hr
   refine ⟨fun hne => ?_, hx⟩
   cases j with
   | zero => exact absurd rfl hne
   | succ j => exact far (by simpa using hq)
  | succ i =>
   have hr' : rs[i]? = some r := by simpa using hr
   cases j with
   | zero =>
    obtain rfl : x = q := by simpa using hq
    refine ⟨fun _ => ?_, (apart_ne n2 hr' hr').2⟩
    obtain ⟨f1, f2, f3, f4⟩ := far hr'
    exact ⟨f1.symm, f3.symm, f2.symm, f4.symm⟩
   | succ j =>
    obtain ⟨a1, a2⟩ := apart_ne n2 hr' (show rs[j]? = some q by simpa using hq)
    exact ⟨fun hne => a1 (fun e => hne (by rw [e])), a2⟩
section
variable {w w' : World} {g : Nat} {tv : Value} {rs : List (Nat × Nat)} {H : Hp}
theorem HeapIn.at_map (h : HeapIn w g tv rs H) {i : Nat} {r : Nat × Nat} {T : Tb} (hr : rs[i]? = some r) (hT : H.tabs[i]? = some T) (x : Nat) (hx : x = r.1 ∨ x = r.2) (ht : Touch (· = x) w w') {T' : Tb} (hok : TbOk T')
  (hat : TbAt w' r T') : HeapIn w' g tv rs ⟨H.tabs.set i T', H.cells, H.spent⟩ := by
 have hm := List.mem_of_getElem? hr
 have hxm : x ∈ mapsOf rs := List.mem_flatMap.2 ⟨r, hm, by simpa using hx⟩
 have keep : ∀ k, Foot g tv rs k → k ≠ x → w'.heap[k]? = w.heap[k]? := fun k hk hn => ht.block k (h.low hk) hn
 refine ⟨(keep g (.inl rfl) (by rintro rfl; exact h.hmap hxm)).trans h.head, ?_, h.len.trans (by simp), fun j q U hq hU => ?_, h.apart, ⟨fun U hU => ?_, h.ok.low, h.ok.le, h.ok.most⟩⟩
 ·obtain ⟨hl, hrow⟩ := h.row
  have e : (H.tabs.set i T').length = H.tabs.length := by simp
  show w'.ownsRow _ _ _ _ (H.tabs.set i T').length _
  rw [e]
  refine ⟨hl, ?_⟩
  rcases hrow with h1 | ⟨gb, cap, cur, e1, hb, hc, h2⟩
  ·exact .inl h1
  ·refine .inr ⟨gb, cap, cur, e1, hb, (keep gb (.inr (.inl (by rw [e1]; rfl))) ?_).trans hc, h2⟩
   rintro rfl
   obtain ⟨es, c, hmm⟩ := h.mem hxm
   rw [hc] at hmm
   cases Option.some.inj hmm
 ·by_cases hij : i = j
  ·subst hij
   have hlt : i < H.tabs.length := (List.getElem?_eq_some_iff.1 hT).1
   have : (H.tabs.set i T')[i]? = some T' := by simp [hlt]
   rw [show (Hp.mk (H.tabs.set i T') H.cells H.spent).tabs = H.tabs.set i T' from rfl] at hU
   rw [this] at hU
   obtain rfl := Option.some.inj hU
   rw [hr] at hq
   obtain rfl := Option.some.inj hq
   exact hat
  ·have hU' : H.tabs[j]? = some U := by
    rw [show (Hp.mk (H.tabs.set i T') H.cells H.spent).tabs = H.tabs.set i T' from rfl] at hU
    rwa [List.getElem?_set_ne hij] at hU
   obtain ⟨mi, mt, h1, h2, h3⟩ := h.tabs j q U hq hU'
   have hqm := List.mem_of_getElem? hq
   have m1 : q.1 ∈ mapsOf rs := List.mem_flatMap.2 ⟨q, hqm, by simp⟩
   have m2 : q.2 ∈ mapsOf rs := List.mem_flatMap.2 ⟨q, hqm, by simp⟩
   obtain ⟨a1, a2, a3, a4⟩ := (apart_ne h.apart hr hq).1 hij
   exact ⟨mi, mt, h1.of (keep _ (.inr (.inr m1)) (by rcases hx with rfl | rfl; exact a1.symm; exact a3.symm)), h2.of (keep _ (.inr (.inr m2)) (by rcases hx with rfl | rfl; exact a2.symm; exact a4.symm)), h3⟩
 ·rcases List.mem_or_eq_of_mem_set hU with hU | rfl
  ·exact h.ok.tab U hU
  ·exact hok
theorem HeapIn.puti (h : HeapIn w g tv rs H) {i : Nat} {r : Nat × Nat} {T : Tb} (hr : rs[i]? = some r) (hT : H.tabs[i]? = some T) {mi : List (Int × Vl)} {mt : List (ByteArray × Vl)} (hmt : IsMap Value.string w r.2 (mmap Vl.v mt)) (hrep : TRep mi mt T)
  (n : Int) (v : Vl) (him : IsMap iKey w' r.1 (mmap Vl.v (iPut mi n v))) (ht : Touch (· = r.1) w w') (hok : TbOk (tput T (iK n) v)) : HeapIn w' g tv rs ⟨H.tabs.set i (tput T (iK n) v), H.cells, H.spent⟩ := by
 have hT' := h.ok.tab T (List.mem_of_getElem? hT)
 refine h.at_map hr hT r.1 (.inl rfl) ht hok ⟨iPut mi n v, mt, him, hmt.of (ht.block _ hmt.lt (fun e => (apart_ne h.apart hr hr).2 e.symm)), ?_⟩
 unfold iPut tput
 split
 ·exact hrep.deli hT'.once n
 ·exact hrep.puti hT'.once n v
theorem HeapIn.putt (h : HeapIn w g tv rs H) {i : Nat} {r : Nat × Nat} {T : Tb} (hr : rs[i]? = some r) (hT : H.tabs[i]? = some T) {mi : List (Int × Vl)} {mt : List (ByteArray × Vl)} (him : IsMap iKey w r.1 (mmap Vl.v mi)) (hrep : TRep mi mt T)
  (s : ByteArray) (v : Vl) (hmt : IsMap Value.string w' r.2 (mmap Vl.v (tPut mt s v))) (ht : Touch (· = r.2) w w') (hok : TbOk (tput T (tK s) v)) : HeapIn w' g tv rs ⟨H.tabs.set i (tput T (tK s) v), H.cells, H.spent⟩ := by
 have hT' := h.ok.tab T (List.mem_of_getElem? hT)
 refine h.at_map hr hT r.2 (.inr rfl) ht hok ⟨mi, tPut mt s v, him.of (ht.block _ him.lt (fun e => (apart_ne h.apart hr hr).2 e)), hmt, ?_⟩
 unfold tPut tput
 split
 ·exact hrep.delt hT'.once s
 ·exact hrep.putt hT'.once s v
end
theorem puti_any (r : Nat) (mm : List (Int × Vl)) (n : Int) (v : Vl) (w : World) (h : IsMap iKey w r (mmap Vl.v mm)) :
  Calls Tryz.prog 51 #[.map (some r), (.int .i64 n), v.v] w fun e w' => e = .returned (.tuple #[]) ∧ IsMap iKey w' r (mmap Vl.v (iPut mm n v)) ∧ Touch (· = r) w w' := by
 unfold iPut
 split
 ·rename_i hv; exact puti_no r mm n v w h hv
 ·rename_i hv; exact puti_yes r mm n v w h hv
theorem putt_any (r : Nat) (mm : List (ByteArray × Vl)) (n : ByteArray) (v : Vl) (w : World) (h : IsMap Value.string w r (mmap Vl.v mm)) :
  Calls Tryz.prog 52 #[.map (some r), (.string n), v.v] w fun e w' => e = .returned (.tuple #[]) ∧ IsMap Value.string w' r (mmap Vl.v (tPut mm n v)) ∧ Touch (· = r) w w' := by
 unfold tPut
 split
 ·rename_i hv; exact putt_no r mm n v w h hv
 ·rename_i hv; exact putt_yes r mm n v w h hv
end Go.Proofs.YtlfihdcgbhdajaaGreatDoor
