/- Trees in memory; rows of trees and of texts of the call's own. Which trees may be, in plain words. slices.ContainsFunc over trees in a row, and over texts. Which trees may be, as the document says it: the same. -/
import Derived.Test.YtkbcnacjaakleaaGreatDoorYP00
set_option maxRecDepth 100000
set_option maxHeartbeats 32000000
set_option linter.unusedVariables false
set_option linter.unusedSimpArgs false
namespace Go.Proofs.YtkbcnacjaakleaaGreatDoor
open Go.RowKit

theorem cell_lt {w : World} {a : Addr} {v : Value} (h : w.cell? a = some v) : a.block < w.heap.size := by
 rcases Nat.lt_or_ge a.block w.heap.size with hlt | hge
 ·exact hlt
 ·simp [World.cell?, Array.getElem?_eq_none hge] at h
theorem Ext.cell {w w' : World} (h : Ext w w') {a : Addr} {v : Value} (hc : w.cell? a = some v) : w'.cell? a = some v :=
 (Below.cell h (cell_lt hc)).trans hc
theorem Only.cell {w w' : World} {g : Nat} (h : Only g w w') {b o : Nat} {v : Value} (hb : ¬ b = g) (hc : w.cell? ⟨b, o, none⟩ = some v) : w'.cell? ⟨b, o, none⟩ = some v :=
 (h.cells.1 b o (cell_lt hc) hb).trans hc
theorem Only.set {g : Nat} {a w : World} (h : Only g a w) (i : Nat) (u : Value) : Only g a (w.setCell ⟨g, i, none⟩ u) := h.setCell (.inl rfl) u
def TxtsAt (ok : Nat → Prop) (w : World) (v : Value) (l : List ByteArray) : Prop :=
 ∃ (q : Option Addr) (c : Nat), v = .slice q l.length c ∧ (0 < l.length → ∃ b o, q = some ⟨b, o, none⟩ ∧ ok b ∧ l.length ≤ c ∧ ∀ i (h : i < l.length), w.cell? ⟨b, o + i, none⟩ = some (.string l[i]))
def KidsAt (ok : Nat → Prop) (w : World) : Nat → Value → List Nd → Prop
 | 0, v, l => l = [] ∧ ∃ q c, v = .slice q 0 c
 | d + 1, v, l => ∃ (q : Option Addr) (c : Nat), v = .slice q l.length c ∧ (0 < l.length → ∃ b o, q = some ⟨b, o, none⟩ ∧ ok b ∧ l.length ≤ c ∧
   ∀ i (h : i < l.length), w.cell? ⟨b, o + i * 6, none⟩ = some (.int .i64 l[i].k) ∧ w.cell? ⟨b, o + i * 6 + 1, none⟩ = some (.string l[i].name) ∧ w.cell? ⟨b, o + i * 6 + 2, none⟩ = some (.string l[i].text) ∧
    w.cell? ⟨b, o + i * 6 + 3, none⟩ = some (.int .i64 l[i].n) ∧ ∃ nv lv, w.cell? ⟨b, o + i * 6 + 4, none⟩ = some nv ∧ w.cell? ⟨b, o + i * 6 + 5, none⟩ = some lv ∧ TxtsAt ok w nv l[i].names ∧ KidsAt ok w d lv l[i].kids)
abbrev ndV (x : Nd) (nv lv : Value) : Value := .agg #[.int .i64 x.k, .string x.name, .string x.text, .int .i64 x.n, nv, lv]
def NodeAt (ok : Nat → Prop) (w : World) (d : Nat) (v : Value) (x : Nd) : Prop := ∃ nv lv, v = ndV x nv lv ∧ TxtsAt ok w nv x.names ∧ KidsAt ok w d lv x.kids
theorem TxtsAt.nil (ok : Nat → Prop) (w : World) : TxtsAt ok w (.slice none 0 0) [] := ⟨none, 0, rfl, fun h => absurd h (by simp)⟩
theorem KidsAt.nil (ok : Nat → Prop) (w : World) (d : Nat) : KidsAt ok w d (.slice none 0 0) [] := by
 cases d with
 | zero => exact ⟨rfl, none, 0, rfl⟩
 | succ d => exact ⟨none, 0, rfl, fun h => absurd h (by simp)⟩
section
variable {ok ok' : Nat → Prop} {w w' : World}
theorem TxtsAt.keep {v : Value} {l : List ByteArray} (h : ∀ b o x, ok b → w.cell? ⟨b, o, none⟩ = some x → w'.cell? ⟨b, o, none⟩ = some x) (hk : ∀ b, b < w.heap.size → ok b → ok' b) (ht : TxtsAt ok w v l) : TxtsAt ok' w' v l := by
 obtain ⟨q, c, e, hq⟩ := ht
 refine ⟨q, c, e, fun h0 => ?_⟩
 obtain ⟨b, o, e1, hb, hcp, hx⟩ := hq h0
 exact ⟨b, o, e1, hk b (cell_lt (hx 0 h0)) hb, hcp, fun i hi => h _ _ _ hb (hx i hi)⟩
theorem KidsAt.keep (h : ∀ b o x, ok b → w.cell? ⟨b, o, none⟩ = some x → w'.cell? ⟨b, o, none⟩ = some x) (hk : ∀ b, b < w.heap.size → ok b → ok' b) : ∀ {d : Nat} {v : Value} {l : List Nd}, KidsAt ok w d v l → KidsAt ok' w' d v l
 | 0, _, _, hl => hl
 | d + 1, v, l, ⟨q, c, e, hq⟩ => ⟨q, c, e, fun h0 => by
   obtain ⟨b, o, e1, hb, hcp, hx⟩ := hq h0
   refine ⟨b, o, e1, hk b (cell_lt (hx 0 h0).1) hb, hcp, fun i hi => ?_⟩
   obtain ⟨h1, h2, h3, h4, nv, lv, h5, h6, h7, h8⟩ := hx i hi
   exact ⟨h _ _ _ hb h1, h _ _ _ hb h2, h _ _ _ hb h3, h _ _ _ hb h4, nv, lv, h _ _ _ hb h5, h _ _ _ hb h6, h7.keep h hk, h8.keep h hk⟩⟩
theorem NodeAt.keep (h : ∀ b o x, ok b → w.cell? ⟨b, o, none⟩ = some x → w'.cell? ⟨b, o, none⟩ = some x) (hk : ∀ b, b < w.heap.size → ok b → ok' b) {d : Nat} {v : Value} {x : Nd} (hn : NodeAt ok w d v x) : NodeAt ok' w' d v x := by
 obtain ⟨nv, lv, e, h1, h2⟩ := hn
 exact ⟨nv, lv, e, h1.keep h hk, h2.keep h hk⟩
theorem TxtsAt.slice {v : Value} {l : List ByteArray} (h : TxtsAt ok w v l) : ∃ q c, v = .slice q l.length c := ⟨h.choose, h.choose_spec.choose, h.choose_spec.choose_spec.1⟩
theorem KidsAt.slice : ∀ {d : Nat} {v : Value} {l : List Nd}, KidsAt ok w d v l → ∃ q c, v = .slice q l.length c
 | 0, _, _, ⟨rfl, q, c, e⟩ => ⟨q, c, e⟩
 | _ + 1, _, _, ⟨q, c, e, _⟩ => ⟨q, c, e⟩
theorem KidsAt.deeper : ∀ {d : Nat} {v : Value} {l : List Nd}, KidsAt ok w d v l → KidsAt ok w (d + 1) v l
 | 0, _, _, ⟨rfl, q, c, e⟩ => ⟨q, c, e, fun h => absurd h (by simp)⟩
 | d + 1, v, l, ⟨q, c, e, hq⟩ => ⟨q, c, e, fun h0 => by
   obtain ⟨b, o, e1, hb, hcp, hx⟩ := hq h0
   refine ⟨b, o, e1, hb, hcp, fun i hi => ?_⟩
   obtain ⟨h1, h2, h3, h4, nv, lv, h5, h6, h7, h8⟩ := hx i hi
   exact ⟨h1, h2, h3, h4, nv, lv, h5, h6, h7, h8.deeper⟩⟩
theorem KidsAt.upto {d e : Nat} {v : Value} {l : List Nd} (h : KidsAt ok w d v l) (hd : d ≤ e) : KidsAt ok w e v l := by
 induction hd with
 | refl => exact h
 | step _ ih => exact ih.deeper
theorem TxtsAt.ext (he : Ext w w') {v : Value} {l : List ByteArray} (h : TxtsAt ok w v l) : TxtsAt ok w' v l := h.keep (fun _ _ _ _ hc => he.cell hc) (fun _ _ h => h)
theorem KidsAt.ext (he : Ext w w') {d : Nat} {v : Value} {l : List Nd} (h : KidsAt ok w d v l) : KidsAt ok w' d v l := h.keep (fun _ _ _ _ hc => he.cell hc) (fun _ _ h => h)
theorem NodeAt.ext (he : Ext w w') {d : Nat} {v : Value} {x : Nd} (h : NodeAt ok w d v x) : NodeAt ok w' d v x := h.keep (fun _ _ _ _ hc => he.cell hc) (fun _ _ h => h)
theorem TxtsAt.imp {v : Value} {l : List ByteArray} (h : TxtsAt ok w v l) (hk : ∀ b, b < w.heap.size → ok b → ok' b) : TxtsAt ok' w v l := h.keep (fun _ _ _ _ hc => hc) hk
theorem KidsAt.imp {d : Nat} {v : Value} {l : List Nd} (h : KidsAt ok w d v l) (hk : ∀ b, b < w.heap.size → ok b → ok' b) : KidsAt ok' w d v l := h.keep (fun _ _ _ _ hc => hc) hk
theorem NodeAt.imp {d : Nat} {v : Value} {x : Nd} (h : NodeAt ok w d v x) (hk : ∀ b, b < w.heap.size → ok b → ok' b) : NodeAt ok' w d v x := h.keep (fun _ _ _ _ hc => hc) hk
theorem KidsAt.elem {d : Nat} {q : Option Addr} {c : Nat} {l : List Nd} (h : KidsAt ok w d (.slice q l.length c) l) {j : Nat} (hj : j < l.length) :
  ∃ b o, q = some ⟨b, o, none⟩ ∧ ok b ∧ w.cell? ⟨b, o + j * 6, none⟩ = some (.int .i64 l[j].k) ∧ w.cell? ⟨b, o + j * 6 + 1, none⟩ = some (.string l[j].name) ∧ w.cell? ⟨b, o + j * 6 + 2, none⟩ = some (.string l[j].text) ∧
   w.cell? ⟨b, o + j * 6 + 3, none⟩ = some (.int .i64 l[j].n) ∧ ∃ qn cn ql cl, w.cell? ⟨b, o + j * 6 + 4, none⟩ = some (.slice qn l[j].names.length cn) ∧ w.cell? ⟨b, o + j * 6 + 5, none⟩ = some (.slice ql l[j].kids.length cl) ∧
    TxtsAt ok w (.slice qn l[j].names.length cn) l[j].names ∧ KidsAt ok w (d - 1) (.slice ql l[j].kids.length cl) l[j].kids := by
 cases d with
 | zero => obtain ⟨rfl, _⟩ := h; simp at hj
 | succ d =>
  obtain ⟨q', c', e, hq⟩ := h
  obtain ⟨b, o, e1, hb, _, hx⟩ := hq (by omega)
  obtain ⟨h1, h2, h3, h4, nv, lv, h5, h6, h7, h8⟩ := hx j hj
  obtain ⟨qn, cn, rfl⟩ := h7.slice
  obtain ⟨ql, cl, rfl⟩ := h8.slice
  injection e with e2 _ _
  exact ⟨b, o, e2.trans e1, hb, h1, h2, h3, h4, qn, cn, ql, cl, h5, h6, h7, h8⟩
end
/-! ### Rows of the call's own -/
abbrev NRow := Nd × Value × Value
def ndC (x : NRow) : List Value := [.int .i64 x.1.k, .string x.1.name, .string x.1.text, .int .i64 x.1.n, x.2.1, x.2.2]
def OwnN (w : World) (B : Nat) (v : Value) (l : List NRow) : Prop := w.ownsRow B 28 6 v l.length (l.flatMap ndC)
theorem ndC_len (l : List NRow) : (l.flatMap ndC).length = l.length * 6 := by
 induction l with
 | nil => rfl
 | cons x l ih => simp only [List.flatMap_cons, List.length_append, ih, ndC, List.length_cons, List.length_nil]; omega
theorem ndC_get : ∀ (l : List NRow) (i : Nat) (x : NRow), l[i]? = some x → (l.flatMap ndC)[i * 6]? = some (.int .i64 x.1.k) ∧ (l.flatMap ndC)[i * 6 + 1]? = some (.string x.1.name) ∧ (l.flatMap ndC)[i * 6 + 2]? = some (.string x.1.text) ∧ (l.flatMap ndC)[i * 6 + 3]? = some (.int .i64 x.1.n) ∧ (l.flatMap ndC)[i * 6 + 4]? = some x.2.1 ∧ (l.flatMap ndC)[i * 6 + 5]? = some x.2.2
 | [], i, x, h => by simp at h
 | y :: l, 0, x, h => by simp at h; subst h; exact ⟨rfl, rfl, rfl, rfl, rfl, rfl⟩
 | y :: l, i + 1, x, h => by
  have := ndC_get l i x (by simpa using h)
  have e : (i + 1) * 6 = i * 6 + 1 + 1 + 1 + 1 + 1 + 1 := by omega
  rw [e]
  simpa [ndC] using this
theorem OwnN.nil (w : World) (B : Nat) : OwnN w B (.slice none 0 0) [] := World.ownsRow_nil _ _ _ _
theorem OwnN.ext {w w' : World} {B : Nat} {v : Value} {l : List NRow} (h : OwnN w B v l) (he : Ext w w') : OwnN w' B v l := own_ext h he
theorem OwnN.slice {w : World} {B : Nat} {v : Value} {l : List NRow} (h : OwnN w B v l) : ∃ q c, v = .slice q l.length c := by
 rcases h.2 with ⟨rfl, h0⟩ | ⟨g, cap, cur, rfl, _⟩
 ·exact ⟨none, 0, by rw [h0]⟩
 ·exact ⟨_, _, rfl⟩
theorem OwnN.cells {w : World} {B : Nat} {v : Value} {l : List NRow} (h : OwnN w B v l) (h0 : 0 < l.length) : ∃ b cap, v = .slice (some ⟨b, 0, none⟩) l.length cap ∧ B ≤ b ∧ b < w.heap.size ∧ l.length ≤ cap ∧ ∀ i x, l[i]? = some x →
  w.cell? ⟨b, 0 + i * 6, none⟩ = some (.int .i64 x.1.k) ∧ w.cell? ⟨b, 0 + i * 6 + 1, none⟩ = some (.string x.1.name) ∧ w.cell? ⟨b, 0 + i * 6 + 2, none⟩ = some (.string x.1.text) ∧ w.cell? ⟨b, 0 + i * 6 + 3, none⟩ = some (.int .i64 x.1.n) ∧ w.cell? ⟨b, 0 + i * 6 + 4, none⟩ = some x.2.1 ∧ w.cell? ⟨b, 0 + i * 6 + 5, none⟩ = some x.2.2 := by
 obtain ⟨hl, hrow⟩ := h
 rcases hrow with ⟨h1, h2⟩ | ⟨gb, cap, cur, e1, hB, hc, h2, h3, h4, h5⟩
 ·omega
 ·refine ⟨gb, cap, e1, hB, (Array.getElem?_eq_some_iff.1 hc).1, h2, fun i x hx => ?_⟩
  have hi : i < l.length := (List.getElem?_eq_some_iff.1 hx).1
  obtain ⟨g1, g2, g3, g4, g5, g6⟩ := ndC_get l i x hx
  rw [← h5, List.getElem?_take] at g1 g2 g3 g4 g5 g6
  rw [if_pos (by omega)] at g1 g2 g3 g4 g5 g6
  simp only [Nat.zero_add]
  refine ⟨?_, ?_, ?_, ?_, ?_, ?_⟩
  ·rw [cell_of_row w gb _ cur _ (0, 0) hc]; simpa using g1
  ·rw [cell_of_row w gb _ cur _ (0, 0) hc]; simpa using g2
  ·rw [cell_of_row w gb _ cur _ (0, 0) hc]; simpa using g3
  ·rw [cell_of_row w gb _ cur _ (0, 0) hc]; simpa using g4
  ·rw [cell_of_row w gb _ cur _ (0, 0) hc]; simpa using g5
  ·rw [cell_of_row w gb _ cur _ (0, 0) hc]; simpa using g6
structure okO (B : Nat) (X : List Nat) (v t : Value) (b : Nat) : Prop where
 lo : B ≤ b
 box : b ∉ X
 row : ∀ y, v.ownBlock = some y → b ≠ y
 txt : ∀ y, t.ownBlock = some y → b ≠ y
structure KOwn (w : World) (B : Nat) (X : List Nat) (tv v : Value) (l : List Nd) : Prop where
 ex : ∃ (d : Nat) (rows : List NRow), rows.map (·.1) = l ∧ OwnN w B v rows ∧ ∀ x ∈ rows, TxtsAt (okO B X v tv) w x.2.1 x.1.names ∧ KidsAt (okO B X v tv) w d x.2.2 x.1.kids
 box : ∀ y, v.ownBlock = some y → y ∉ X
theorem own_blk {w w' : World} {base : Nat} {e : TypeId} {s : Nat} {v : Value} {n : Nat} {xs : List Value} (h : w.ownsRow base e s v n xs) (hh : ∀ g, v.ownBlock = some g → g < w.heap.size → w'.heap[g]? = w.heap[g]?) : w'.ownsRow base e s v n xs := by
 obtain ⟨hl, hrow⟩ := h
 refine ⟨hl, ?_⟩
 rcases hrow with h1 | ⟨gb, cap, cur, e1, hB, hc, h2⟩
 ·exact .inl h1
 ·exact .inr ⟨gb, cap, cur, e1, hB, (hh gb (by rw [e1]; rfl) (Array.getElem?_eq_some_iff.1 hc).1).trans hc, h2⟩
theorem KOwn.nil (w : World) (B : Nat) (X : List Nat) (tv : Value) : KOwn w B X tv (.slice none 0 0) [] := ⟨⟨0, [], rfl, .nil w B, fun x hx => (List.not_mem_nil hx).elim⟩, fun y hy => by simp [Value.ownBlock] at hy⟩
theorem cell_of_heap {w w' : World} {ok : Nat → Prop} (hk : ∀ k, ok k → k < w.heap.size → w'.heap[k]? = w.heap[k]?) {b o : Nat} {x : Value} (hb : ok b) (hc : w.cell? ⟨b, o, none⟩ = some x) : w'.cell? ⟨b, o, none⟩ = some x := by
 have hlt := cell_lt hc
 simp only at hlt
 unfold World.cell? at hc ⊢
 simp only at hc ⊢
 rw [hk b hb hlt]
 exact hc
theorem KOwn.lt {w : World} {B : Nat} {X : List Nat} {tv v : Value} {l : List Nd} (h : KOwn w B X tv v l) : ∀ y, v.ownBlock = some y → B ≤ y ∧ y < w.heap.size := by
 obtain ⟨d, rows, h1, ⟨_, hrow⟩, _⟩ := h.ex
 intro y hy
 rcases hrow with ⟨h1, h2⟩ | ⟨gb, cap, cur, e1, hB, hc, _⟩
 ·rw [h1] at hy; simp [Value.ownBlock] at hy
 ·rw [e1] at hy
  obtain rfl := Option.some.inj hy
  exact ⟨hB, (Array.getElem?_eq_some_iff.1 hc).1⟩
theorem KOwn.of_heap {w w' : World} {B : Nat} {X : List Nat} {tv v : Value} {l : List Nd} (h : KOwn w B X tv v l) (hk : ∀ k, B ≤ k ∧ k ∉ X → k < w.heap.size → w'.heap[k]? = w.heap[k]?) : KOwn w' B X tv v l := by
 have hlt := h.lt
 obtain ⟨⟨d, rows, h1, h2, h3⟩, hb⟩ := h
 exact ⟨⟨d, rows, h1, own_blk h2 (fun g hg hl => hk g ⟨(hlt g hg).1, hb g hg⟩ hl), fun x hx => ⟨(h3 x hx).1.keep (fun b o y hb hc => cell_of_heap hk ⟨hb.lo, hb.box⟩ hc) (fun _ _ h => h), (h3 x hx).2.keep (fun b o y hb hc => cell_of_heap hk ⟨hb.lo, hb.box⟩ hc) (fun _ _ h => h)⟩⟩, hb⟩
theorem KOwn.slice {w : World} {B : Nat} {X : List Nat} {tv v : Value} {l : List Nd} (h : KOwn w B X tv v l) : ∃ q c, v = .slice q l.length c := by
 obtain ⟨d, rows, h1, h2, _⟩ := h.ex
 rw [← h1, List.length_map]
 exact h2.slice
theorem KOwn.kids {w : World} {B : Nat} {X : List Nat} {tv v : Value} {l : List Nd} (h : KOwn w B X tv v l) : ∃ d, KidsAt (B ≤ ·) w d v l := by
 obtain ⟨d, rows, rfl, h2, h3⟩ := h.ex
 obtain ⟨q, c, rfl⟩ := h2.slice
 refine ⟨d + 1, q, c, by rw [List.length_map], fun h0 => ?_⟩
 rw [List.length_map] at h0
 obtain ⟨b, cap, e, hB, _, hcp, hx⟩ := h2.cells h0
 refine ⟨b, 0, by injection e, hB, by injection e with e1 e2 e3; rw [List.length_map, e3]; exact hcp, fun i hi => ?_⟩
 rw [List.length_map] at hi
 obtain ⟨g1, g2, g3, g4, g5, g6⟩ := hx i rows[i] (List.getElem?_eq_getElem hi)
 have hm := h3 rows[i] (List.getElem_mem hi)
 simp only [List.getElem_map]
 exact ⟨g1, g2, g3, g4, _, _, g5, g6, hm.1.imp (fun _ _ h => h.lo), hm.2.imp (fun _ _ h => h.lo)⟩
theorem KOwn.sort {w : World} {B : Nat} {X : List Nat} {tv v : Value} {l : List Nd} (h : KOwn w B X tv v l) : ∀ y, v.ownBlock = some y → ∃ cs, w.heap[y]? = some (.cells cs 28 (0, 0)) := by
 obtain ⟨d, rows, h1, ⟨_, hrow⟩, _⟩ := h.ex
 intro y hy
 rcases hrow with ⟨h1, h2⟩ | ⟨gb, cap, cur, e1, hB, hc, _⟩
 ·rw [h1] at hy; simp [Value.ownBlock] at hy
 ·rw [e1] at hy
  obtain rfl := Option.some.inj hy
  exact ⟨_, hc⟩
theorem infoNd : (Tryz.prog.info? 28).map (fun i => (i.zero, i.size, i.bytes)) = some (some (.agg #[.int .i64 0, .string ⟨#[]⟩, .string ⟨#[]⟩, .int .i64 0, .slice none 0 0, .slice none 0 0]), 6, 96) := by kernel_rfl
end Go.Proofs.YtkbcnacjaakleaaGreatDoor
namespace Go.Proofs.YtkbcnacjaakleaaGreatDoor

def exprK (k : Int) : Bool := decide (10 ≤ k) && decide (k ≤ 24) && !(k == 19) && !(k == 20)
def exprsP (l : List Nd) : Bool := l.all fun x => exprK x.k
def blockAtP (l : List Nd) (n : Nat) : Bool := l.length == n + 1 && (match l[n]? with | some x => x.k == 0 | none => false) && exprsP (l.take n)
def condP (i m : Nat) : Bool := i % 2 == 0 && (decide (i + 1 < m) || m % 2 == 0)
def branchFrom (m : Nat) : Nat → List Nd → Bool
 | _, [] => true
 | i, x :: l => (condP i m == exprK x.k && (condP i m || x.k == 0)) && branchFrom m (i + 1) l
def branchesP (l : List Nd) : Bool := decide (2 ≤ l.length) && branchFrom l.length 0 l
def stmtK (k : Int) : Bool := decide (1 ≤ k) && decide (k ≤ 9) || k == 17
def blockFrom : List Nd → Bool
 | [] => true
 | x :: l => (stmtK x.k && (l.isEmpty || !(x.k == 7 || x.k == 8))) && blockFrom l
def operB (s : List UInt8) : Bool := bondL.any fun l => l.contains s
structure Shp where
 name : Bool
 oper : Bool
 text : Bool
 num : Bool
 least : Nat
 most : Nat
 kids : List Nd → Bool
def tableP (l : List Nd) : Bool := l.all fun x => x.k == 19 || x.k == 20
def assignP (l : List Nd) : Bool := l.length == 2 && exprsP l && (match l with | x :: _ => x.k == 15 || x.k == 16 | [] => false)
def countP (n : Nat) (l : List Nd) : Bool := l.length == n && exprsP l
def shapeP (k : Int) : Option Shp :=
 if k = 1 then some ⟨false, false, false, false, 1, 1048576, exprsP⟩
 else if k = 2 then some ⟨false, false, false, false, 0, 0, assignP⟩
 else if k = 3 then some ⟨false, false, false, false, 0, 0, fun l => blockAtP l 0⟩
 else if k = 4 then some ⟨false, false, false, false, 0, 0, branchesP⟩
 else if k = 5 then some ⟨false, false, false, false, 0, 0, fun l => blockAtP l 1⟩
 else if k = 6 then some ⟨false, false, false, false, 1, 1, fun l => blockAtP l 2 || blockAtP l 3⟩
 else if k = 7 then some ⟨false, false, false, false, 0, 0, fun l => decide (l.length ≤ 1) && exprsP l⟩
 else if k = 8 then some ⟨false, false, false, false, 0, 0, countP 0⟩
 else if k = 9 then some ⟨true, false, false, false, 0, 1048576, fun l => blockAtP l 0⟩
 else if k = 10 ∨ k = 11 ∨ k = 12 then some ⟨false, false, false, false, 0, 0, countP 0⟩
 else if k = 13 then some ⟨false, false, false, true, 0, 0, countP 0⟩
 else if k = 14 then some ⟨false, false, true, false, 0, 0, countP 0⟩
 else if k = 15 then some ⟨true, false, false, false, 0, 0, countP 0⟩
 else if k = 16 then some ⟨false, false, false, false, 0, 0, countP 2⟩
 else if k = 17 then some ⟨true, false, false, false, 0, 0, exprsP⟩
 else if k = 18 then some ⟨false, false, false, false, 0, 0, tableP⟩
 else if k = 19 then some ⟨false, false, false, false, 0, 0, countP 1⟩
 else if k = 20 then some ⟨false, false, false, false, 0, 0, countP 2⟩
 else if k = 21 then some ⟨false, true, false, false, 0, 0, countP 2⟩
 else if k = 22 ∨ k = 23 ∨ k = 24 then some ⟨false, false, false, false, 0, 0, countP 1⟩
 else none
def nodeP (k : Int) (name text : ByteArray) (n : Int) (names : List ByteArray) (kids : List Nd) : Bool :=
 if k = 0 then name == eB && text == eB && n == 0 && names.isEmpty && blockFrom kids
 else match shapeP k with
  | none => false
  | some s =>
   s.kids kids && decide (s.least ≤ names.length) && decide (names.length ≤ s.most) && names.all (fun x => nameP x.data.toList) &&
   (!s.name || nameP name.data.toList) && (!s.oper || operB name.data.toList) && (s.name || s.oper || name == eB) &&
   (s.text || text == eB) && (s.num || n == 0) && decide (0 ≤ n) && (!(k == 1) || decide (kids.length ≤ names.length))
mutual
def mayN : Nd → Bool
 | .mk k name text n names kids => mayL kids && nodeP k name text n names kids
def mayL : List Nd → Bool
 | [] => true
 | x :: l => mayN x && mayL l
end
mutual
def deepN : Nat → Nd → Bool
 | 0, _ => false
 | d + 1, .mk _ _ _ _ _ kids => deepL d kids
def deepL : Nat → List Nd → Bool
 | _, [] => true
 | d, x :: l => deepN d x && deepL d l
end
def checkN (x : Nd) : Bool := x.k == 0 && deepN 100 x && mayN x
mutual
def cntN : Nd → Nat
 | .mk _ _ _ _ _ kids => 1 + cntL kids
def cntL : List Nd → Nat
 | [] => 0
 | x :: l => cntN x + cntL l
end
mutual
def sameN : Nd → Nd → Bool
 | .mk k a t n l x, .mk k' a' t' n' l' x' => k == k' && a == a' && t == t' && n == n' && l == l' && sameL x x'
def sameL : List Nd → List Nd → Bool
 | [], [] => true
 | x :: l, y :: m => sameN x y && sameL l m
 | _, _ => false
end
open Go.RowKit

theorem KidsAt.node {ok : Nat → Prop} {w : World} {d : Nat} {q : Option Addr} {c : Nat} {l : List Nd} (h : KidsAt ok w d (.slice q l.length c) l) {j : Nat} (hj : j < l.length) :
  ∃ b o qn cn ql cl, q = some ⟨b, o, none⟩ ∧ w.cell? ⟨b, o + j * 6, none⟩ = some (.int .i64 l[j].k) ∧ w.cell? ⟨b, o + j * 6 + 1, none⟩ = some (.string l[j].name) ∧ w.cell? ⟨b, o + j * 6 + 2, none⟩ = some (.string l[j].text) ∧
   w.cell? ⟨b, o + j * 6 + 3, none⟩ = some (.int .i64 l[j].n) ∧ w.cell? ⟨b, o + j * 6 + 4, none⟩ = some (.slice qn l[j].names.length cn) ∧ w.cell? ⟨b, o + j * 6 + 5, none⟩ = some (.slice ql l[j].kids.length cl) ∧
   NodeAt ok w (d - 1) (ndV l[j] (.slice qn l[j].names.length cn) (.slice ql l[j].kids.length cl)) l[j] := by
 obtain ⟨b, o, e, _, h0, h1, h2, h3, qn, cn, ql, cl, h4, h5, h6, h7⟩ := h.elem hj
 exact ⟨b, o, qn, cn, ql, cl, e, h0, h1, h2, h3, h4, h5, _, _, rfl, h6, h7⟩
theorem any_drop {α : Type} (p : α → Bool) (l : List α) (k : Nat) (h : k < l.length) : (l.drop k).any p = (p l[k] || (l.drop (k + 1)).any p) := by
 rw [List.drop_eq_getElem_cons h, List.any_cons]
theorem index_nd {f : Nat} {lb : Array Value} {p : Nd → Bool} (w : World) (ok : Nat → Prop) (d : Nat) (v : Value) (l : List Nd) (hv : KidsAt ok w d v l) (hlen : l.length ≤ 9223372036854775806)
  (hF : ∀ (args : Array Value) (w : World), (callFunc f args).run Tryz.prog w = .ok (.enter f args) w)
  (hsub : ∀ x ∈ l, ∀ W v', Ext w W → NodeAt ok W (d - 1) v' x → Calls Tryz.prog f (#[v'] ++ lb) W fun e w' => e = .returned (.bool (p x)) ∧ Ext W w') :
  Calls Tryz.prog 124 #[v, .func (.func f) #[] lb] w fun e w' => (∃ i : Int, e = .returned (.int .i64 i) ∧ decide (0 ≤ i) = l.any p) ∧ Ext w w' := by
 obtain ⟨q, c, rfl⟩ := hv.slice
 have HX := Lib.hid hv
 have HS := Lib.hid hsub
 obtain ⟨n, hn⟩ : ∃ n, l.length = n := ⟨_, rfl⟩
 rw [hn] at hlen ⊢
 have HN := Lib.hid hn
 obtain ⟨r, hr⟩ : ∃ r, l.any p = r := ⟨_, rfl⟩
 rw [hr]
 have HR := Lib.hid hr
 clear hv hsub hn hr
 go_enter Tryz.func124, Tryz.ntmps124
 go_wp2_with fail
 go_loopw [8] (fun i wr => ∃ k : Nat, k ≤ n ∧ i = .int .i64 k ∧ Hid ((l.drop k).any p = r) ∧ Hid (Ext w wr)) (fun i _ => n - (intOf i).toNat)
 case atStart => exact ⟨0, Nat.zero_le _, rfl, HR, Lib.hid (Ext.refl w)⟩
 case round =>
  obtain ⟨k, hk, rfl, HK, HE⟩ := hrel
  by_cases hlt : k < n
  ·have kl : k < l.length := by rw [HN.out]; exact hlt
   obtain ⟨b, o, qn, cn, ql, cl, rfl, c0, c1, c2, c3, c4, c5, hnd⟩ := ((HX.out).ext HE.out).node kl
   have hc := HS.out l[k] (List.getElem_mem kl) wr _ HE.out hnd
   have hd := any_drop p l k kl
   rw [HK.out] at hd
   obtain ⟨x, hx'⟩ : ∃ x, l[k] = x := ⟨_, rfl⟩
   rw [hx'] at c0 c1 c2 c3 c4 c5 hd hc
   obtain ⟨nl, hnl⟩ : ∃ n, x.names.length = n := ⟨_, rfl⟩
   obtain ⟨kl2, hkl⟩ : ∃ n, x.kids.length = n := ⟨_, rfl⟩
   rw [hnl] at c4 hc
   rw [hkl] at c5 hc
   have k0 : (0 : Int) ≤ (k : Int) := by omega
   have k1 : (k : Int) < (n : Int) := by omega
   have HD := Lib.hid hd
   have HC := Lib.hid hc
   clear hnd hx' kl hd hc hnl hkl
   go_wp2_with fail
   refine HC.out.mono ?_
   rintro e w1 ⟨rfl, he⟩
   have HE1 := Lib.hid (HE.out.trans he)
   clear he HC c0 c1 c2 c3 c4 c5
   obtain ⟨m, hm⟩ : ∃ m, p x = m := ⟨_, rfl⟩
   rw [hm]
   have hd := HD.out
   rw [hm] at hd
   clear hm HD
   cases m
   ·have HD : Hid ((l.drop (k + 1)).any p = r) := Lib.hid (by rw [hd, Bool.false_or])
    clear hd
    go_wp2_with fail
    go_roundw
    case rel => exact ⟨k + 1, hlt, by go_num, HD, HE1⟩
    case measure => simp [intOf]; omega
   ·have hrr : r = true := hd
    clear hd
    subst hrr
    go_wp2_with fail
    go_ret
    exact ⟨⟨_, rfl, decide_eq_true (by omega)⟩, HE1.out⟩
  ·obtain rfl : k = n := by omega
   have hrr : r = false := by rw [← HK.out, List.drop_eq_nil_of_le (by rw [HN.out]; exact Nat.le_refl _)]; rfl
   subst hrr
   go_wp2_with fail
   go_ret
   exact ⟨⟨_, rfl, rfl⟩, HE.out⟩
theorem contains_nd {f : Nat} {lb : Array Value} {p : Nd → Bool} (w : World) (ok : Nat → Prop) (d : Nat) (v : Value) (l : List Nd) (hv : KidsAt ok w d v l) (hlen : l.length ≤ 9223372036854775806)
  (hF : ∀ (args : Array Value) (w : World), (callFunc f args).run Tryz.prog w = .ok (.enter f args) w)
  (hsub : ∀ x ∈ l, ∀ W v', Ext w W → NodeAt ok W (d - 1) v' x → Calls Tryz.prog f (#[v'] ++ lb) W fun e w' => e = .returned (.bool (p x)) ∧ Ext W w') :
  Calls Tryz.prog 66 #[v, .func (.func f) #[] lb] w fun e w' => e = .returned (.bool (l.any p)) ∧ Ext w w' := by
 have HI := Lib.hid (index_nd w ok d v l hv hlen hF hsub)
 clear hv hsub
 go_enter Tryz.func66, Tryz.ntmps66
 go_wp2_with fail
 refine HI.out.mono ?_
 rintro e w1 ⟨⟨i, rfl, hi⟩, he⟩
 have HE := Lib.hid he
 have HB := Lib.hid hi
 clear he hi
 go_wp2_with fail
 go_ret
 exact ⟨ret_of (bool_eq HB.out), HE.out⟩
end Go.Proofs.YtkbcnacjaakleaaGreatDoor
namespace Go.Proofs.YtkbcnacjaakleaaGreatDoor

def rkidsP (k : Int) (nn : Nat) (l : List Nd) : Bool :=
 if k = 0 then blockFrom l
 else if k = 1 then exprsP l && decide (l.length ≤ nn)
 else if k = 2 then assignP l
 else if k = 3 ∨ k = 9 then blockAtP l 0
 else if k = 4 then branchesP l
 else if k = 5 then blockAtP l 1
 else if k = 6 then blockAtP l 2 || blockAtP l 3
 else if k = 7 then decide (l.length ≤ 1) && exprsP l
 else if k = 16 ∨ k = 20 ∨ k = 21 then countP 2 l
 else if k = 17 then exprsP l
 else if k = 18 then tableP l
 else if k = 19 ∨ k = 22 ∨ k = 23 ∨ k = 24 then countP 1 l
 else countP 0 l
def hasName (k : Int) : Bool := k == 9 || k == 15 || k == 17
def rnodeP (k : Int) (name text : ByteArray) (n : Int) (names : List ByteArray) (kids : List Nd) : Bool :=
 decide (0 ≤ k) && decide (k ≤ 24) && rkidsP k names.length kids &&
  (!hasName k || nameP name.data.toList) && (!(k == 21) || operB name.data.toList) && (hasName k || k == 21 || name == eB) &&
  (k == 14 || text == eB) && (k == 13 || n == 0) && decide (0 ≤ n) &&
  (!(k == 1) || decide (1 ≤ names.length)) && (!(k == 6) || names.length == 1) && (k == 1 || k == 6 || k == 9 || names.length == 0) && names.all (fun x => nameP x.data.toList)
mutual
def rmayN : Nd → Bool
 | .mk k name text n names kids => rnodeP k name text n names kids && rmayL kids
def rmayL : List Nd → Bool
 | [] => true
 | x :: l => rmayN x && rmayL l
end
theorem kinds_all {k : Int} (h0 : 0 ≤ k) (h1 : k ≤ 24) : k = 0 ∨ k = 1 ∨ k = 2 ∨ k = 3 ∨ k = 4 ∨ k = 5 ∨ k = 6 ∨ k = 7 ∨ k = 8 ∨ k = 9 ∨ k = 10 ∨ k = 11 ∨ k = 12 ∨ k = 13 ∨ k = 14 ∨ k = 15 ∨ k = 16 ∨ k = 17 ∨ k = 18 ∨ k = 19 ∨ k = 20 ∨ k = 21 ∨ k = 22 ∨ k = 23 ∨ k = 24 := by omega
theorem shapeP_out {k : Int} (h : ¬ (0 ≤ k ∧ k ≤ 24)) : shapeP k = none := by
 unfold shapeP
 repeat (rw [if_neg (by omega)])
/-! ### How many bytes -/
mutual
def txN : Nd → Nat
 | .mk _ name text _ names kids => name.size + text.size + names.length + (names.map ByteArray.size).sum + txL kids
def txL : List Nd → Nat
 | [] => 0
 | x :: l => txN x + txL l
end
def In64 (n : Int) : Prop := -9223372036854775808 ≤ n ∧ n ≤ 9223372036854775807
mutual
def SzN : Nd → Prop
 | .mk k a t n ns ks => (In64 k ∧ In64 n ∧ a.size ≤ 140737488355328 ∧ t.size ≤ 140737488355328 ∧ ns.length ≤ 140737488355328 ∧ (∀ s ∈ ns, s.size ≤ 140737488355328) ∧ ks.length ≤ 140737488355328) ∧ SzL ks
def SzL : List Nd → Prop
 | [] => True
 | x :: l => SzN x ∧ SzL l
end
theorem SzL.mem : ∀ {l : List Nd}, SzL l → ∀ x ∈ l, SzN x
 | [], _, x, hx => by simp at hx
 | y :: l, h, x, hx => by
  simp only [SzL] at h
  rcases List.mem_cons.1 hx with rfl | hx
  ·exact h.1
  ·exact SzL.mem h.2 x hx
structure SzO (x : Nd) : Prop where
 k : In64 x.k
 n : In64 x.n
 name : x.name.size ≤ 140737488355328
 text : x.text.size ≤ 140737488355328
 names : x.names.length ≤ 140737488355328
 each : ∀ s ∈ x.names, s.size ≤ 140737488355328
 kids : x.kids.length ≤ 140737488355328
 sub : ∀ y ∈ x.kids, SzN y
theorem SzN.out {x : Nd} (h : SzN x) : SzO x := by
 obtain ⟨k, a, t, n, ns, ks⟩ := x
 simp only [SzN] at h
 obtain ⟨⟨h1, h2, h3, h4, h5, h6, h7⟩, h8⟩ := h
 exact ⟨h1, h2, h3, h4, h5, h6, h7, h8.mem⟩
end Go.Proofs.YtkbcnacjaakleaaGreatDoor
