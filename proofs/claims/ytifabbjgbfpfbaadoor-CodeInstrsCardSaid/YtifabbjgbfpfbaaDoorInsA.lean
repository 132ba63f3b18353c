/- Appends that grow, in drawn regions: rows of cells. -/
import Derived.Test.YtifabbjgbfpfbaaDoorCodD
import Derived.Deep.RegionLawGrows
import Derived.Deep.Slices
namespace Go.Proofs.YtifabbjgbfpfbaaDoor
open Go.RowKit
set_option linter.unusedVariables false
set_option linter.unusedSimpArgs false

theorem flat_len {α : Type} {k : Nat} : ∀ {L : List (List α)}, (∀ r ∈ L, r.length = k) → L.flatten.length = L.length * k
  | [], _ => by simp
  | r :: L, h => by
    rw [List.flatten_cons, List.length_append, h r (List.mem_cons_self ..), flat_len (fun x hx => h x (List.mem_cons_of_mem _ hx)), List.length_cons, Nat.succ_mul]; omega
theorem flat_get {α : Type} {k : Nat} : ∀ {L : List (List α)}, (∀ r ∈ L, r.length = k) → ∀ (i r : Nat) (hi : i < L.length), r < k → L.flatten[i * k + r]? = L[i][r]?
  | [], _, i, r, hi, _ => by simp at hi
  | x :: L, h, 0, r, _, hr => by
    have hx := h x (List.mem_cons_self ..)
    rw [List.flatten_cons, Nat.zero_mul, Nat.zero_add, List.getElem?_append_left (by omega)]; rfl
  | x :: L, h, i + 1, r, hi, hr => by
    have hx := h x (List.mem_cons_self ..)
    rw [List.flatten_cons, List.getElem?_append_right (by rw [Nat.succ_mul]; omega), hx, show (i + 1) * k + r - k = i * k + r by rw [Nat.succ_mul]; omega]
    exact flat_get (fun y hy => h y (List.mem_cons_of_mem _ hy)) i r (by simpa using hi) hr
theorem flat_inv {α : Type} {k : Nat} {L : List (List α)} (h : ∀ r ∈ L, r.length = k) {j : Nat} {u : α} (hj : L.flatten[j]? = some u) :
    ∃ (i r : Nat) (hi : i < L.length), j = i * k + r ∧ L[i][r]? = some u := by
  have hlt : j < L.flatten.length := (List.getElem?_eq_some_iff.mp hj).1
  rw [flat_len h] at hlt
  have hk : 0 < k := by
    rcases Nat.eq_zero_or_pos k with rfl | h; · simp at hlt
    exact h
  have hi : j / k < L.length := Nat.div_lt_of_lt_mul (by rw [Nat.mul_comm]; exact hlt)
  have hr : j % k < k := Nat.mod_lt _ hk
  have e : j / k * k + j % k = j := by rw [Nat.mul_comm]; exact Nat.div_add_mod ..
  have := flat_get h (j / k) (j % k) hi hr
  rw [e, hj] at this
  exact ⟨_, _, hi, e.symm, this.symm⟩
/-- Rows of cells, one behind the other. -/
def RowsAt (w : World) (b o k : Nat) (L : List (List Value)) : Prop := ∀ (i : Nat) (h : i < L.length) (r : Nat) (u : Value), L[i][r]? = some u → w.cell? ⟨b, o + i * k + r, none⟩ = some u
theorem RowsAt.flat {w : World} {b o k : Nat} {L : List (List Value)} (h : RowsAt w b o k L) (hk : ∀ r ∈ L, r.length = k) {j : Nat} {u : Value} (hj : L.flatten[j]? = some u) : w.cell? ⟨b, o + j, none⟩ = some u := by
  obtain ⟨i, r, hi, rfl, hu⟩ := flat_inv hk hj
  rw [show o + (i * k + r) = o + i * k + r by omega]
  exact h i hi r u hu
theorem RowsAt.of_flat {w : World} {b k : Nat} {L : List (List Value)} (hk : ∀ r ∈ L, r.length = k) (h : ∀ j u, L.flatten[j]? = some u → w.cell? ⟨b, j, none⟩ = some u) : RowsAt w b 0 k L := by
  intro i hi r u hu
  have hr : r < k := by
    have := (List.getElem?_eq_some_iff.mp hu).1
    rw [hk _ (List.getElem_mem hi)] at this; exact this
  rw [Nat.zero_add]
  exact h _ _ ((flat_get hk i r hi hr).trans hu)
theorem RowsAt.ext {w w' : World} {b o k : Nat} {L : List (List Value)} (h : RowsAt w b o k L) (he : Ext w w') : RowsAt w' b o k L := fun i hi r u hu => he.cell (h i hi r u hu)
theorem RowsAt.tail {w : World} {b o k : Nat} {x : List Value} {L : List (List Value)} (h : RowsAt w b o k (x :: L)) : RowsAt w b (o + k) k L := by
  intro i hi r u hu
  have := h (i + 1) (by simpa using hi) r u hu
  rw [Nat.succ_mul] at this
  rw [show o + k + i * k + r = o + (i * k + k) + r by omega]
  exact this

def rowI (i : Ins) : List Value := [.int .i64 i.op, .int .i64 i.a, .int .i64 i.b, .int .i64 i.c]
def rowP (f : Pr × Value) : List Value := [.int .i64 f.1.pa, .int .i64 f.1.rg, f.2]
theorem rowI_len (l : List Ins) : ∀ r ∈ l.map rowI, r.length = 4 := by
  intro r hr; obtain ⟨x, _, rfl⟩ := List.mem_map.mp hr; rfl
theorem rowP_len (l : List (Pr × Value)) : ∀ r ∈ l.map rowP, r.length = 3 := by
  intro r hr; obtain ⟨x, _, rfl⟩ := List.mem_map.mp hr; rfl
theorem CodeAt.rows {w : World} {v : Value} {l : List Ins} (h : CodeAt w v l) (hl : 0 < l.length) : ∃ b o c, v = .slice (some ⟨b, o, none⟩) l.length c ∧ RowsAt w b o 4 (l.map rowI) := by
  obtain ⟨q, c, rfl, hq⟩ := h
  obtain ⟨b, o, rfl, hx⟩ := hq hl
  refine ⟨b, o, c, rfl, fun i hi r u hu => ?_⟩
  obtain ⟨h0, h1, h2, h3⟩ := hx i (by simpa using hi)
  rw [List.getElem_map] at hu
  match r, hu with
  | 0, hu => cases hu; exact h0
  | 1, hu => cases hu; exact h1
  | 2, hu => cases hu; exact h2
  | 3, hu => cases hu; exact h3
theorem CodeAt.of_rows {w : World} {b o c : Nat} {l : List Ins} (h : RowsAt w b o 4 (l.map rowI)) : CodeAt w (.slice (some ⟨b, o, none⟩) l.length c) l := by
  refine ⟨_, c, rfl, fun _ => ⟨b, o, rfl, fun i hi => ?_⟩⟩
  have hi' : i < (l.map rowI).length := by simpa using hi
  have := fun r u => h i hi' r u
  simp only [List.getElem_map] at this
  exact ⟨this 0 _ rfl, this 1 _ rfl, this 2 _ rfl, this 3 _ rfl⟩
/-- The functions of a program, and where their instructions lie. -/
theorem ProtosAt.rows {w : World} {v : Value} {l : List Pr} (h : ProtosAt w v l) (hl : 0 < l.length) :
    ∃ (b o c : Nat) (L : List (Pr × Value)), v = .slice (some ⟨b, o, none⟩) l.length c ∧ RowsAt w b o 3 (L.map rowP) ∧ L.map (·.1) = l ∧ ∀ x ∈ L, CodeAt w x.2 x.1.cd := by
  obtain ⟨q, c, rfl, hq⟩ := h
  obtain ⟨b, o, rfl, hx⟩ := hq hl
  have hone : ∀ i, i < l.length → ∃ cv : Value, ∀ h : i < l.length, w.cell? ⟨b, o + i * 3 + 2, none⟩ = some cv ∧ CodeAt w cv l[i].cd := fun i hi => by
    obtain ⟨_, _, cv, h3, h4⟩ := hx i hi
    exact ⟨cv, fun _ => ⟨h3, h4⟩⟩
  obtain ⟨z, hz⟩ := Go.Deep.choose_lt hone
  refine ⟨b, o, c, (List.range l.length).zipWith (fun i f => (f, z i)) l, rfl, fun i hi r u hu => ?_, ?_, ?_⟩
  · have hi' : i < l.length := by simpa using hi
    obtain ⟨h1, h2, _⟩ := hx i hi'
    rw [List.getElem_map] at hu
    simp only [List.getElem_zipWith, List.getElem_range] at hu
    match r, hu with
    | 0, hu => cases hu; exact h1
    | 1, hu => cases hu; exact h2
    | 2, hu => cases hu; exact (hz i hi' hi').1
  · apply List.ext_getElem (by simp)
    intro i h1 h2
    simp
  · intro x hx
    obtain ⟨i, hi, rfl⟩ := List.mem_iff_getElem.mp hx
    have hi' : i < l.length := by simpa using hi
    simpa using (hz i hi' hi').2
theorem ProtosAt.of_rows {w : World} {b o c : Nat} {L : List (Pr × Value)} (h : RowsAt w b o 3 (L.map rowP)) (hc : ∀ x ∈ L, CodeAt w x.2 x.1.cd) : ProtosAt w (.slice (some ⟨b, o, none⟩) L.length c) (L.map (·.1)) := by
  refine ⟨_, c, by simp, fun _ => ⟨b, o, rfl, fun i hi => ?_⟩⟩
  have hi0 : i < L.length := by simpa using hi
  have hi' : i < (L.map rowP).length := by simpa using hi0
  have := fun r u => h i hi' r u
  simp only [List.getElem_map] at this
  refine ⟨by simpa using this 0 _ rfl, by simpa using this 1 _ rfl, L[i].2, by simpa using this 2 _ rfl, ?_⟩
  simpa using hc _ (List.getElem_mem hi0)

/-- append that grows, as one step of a drawn region. -/
theorem step_app {P : Program} {ops : Array Oper} {o : Oper} {a : Act} {w : World} {K : Act → World → Prop} {Q : Exit → Act → World → Prop} {E : Prop}
    (hg : o.guard = none) (s x : Operand) (t : TypeId) (hop : o.op = Op.call { callee := Callee.builtin Builtin.append, args := #[s, x], argTypes := #[t, t] })
    (e : TypeId) (size bytes : Nat) (h1 : P.underlying t = some (.slice e)) (hi : ∃ i z, P.info? e = some i ∧ i.zero = some z ∧ i.size = size ∧ i.bytes = bytes ∧ z.cells.size = size) (h7 : 0 < size)
    (b n cap : Nat) (olds : List Value) (hs : a.eval s = .slice (some ⟨b, 0, none⟩) n cap) (hlo : olds.length = n * size) (holds : ∀ j u, olds[j]? = some u → w.cell? ⟨b, 0 + j, none⟩ = some u)
    (d od m c : Nat) (news : List Value) (hx : a.eval x = .slice (some ⟨d, od, none⟩) m c) (hn : news.length = m * size) (hc : ∀ j u, news[j]? = some u → w.cell? ⟨d, od + j, none⟩ = some u) (h1c : ∀ u ∈ news, u.oneCell' = true)
    (hfull : cap < n + m) (b1 : n + m ≤ maxLen) (b2 : (n + m) * bytes ≤ 140737488355328)
    (hK : ∀ g cap' w', w.heap.size ≤ g → g < w'.heap.size → Ext w w' → (∀ j u, (olds ++ news)[j]? = some u → w'.cell? ⟨g, j, none⟩ = some u) → K (a.put o.dst (.slice (some ⟨g, 0, none⟩) (n + m) cap')) w') :
    if Region.wanted o (yielded ops a.tmps) = true then Oper.wp P o a w K Q else E := by
  obtain ⟨i, z, h2, h3, h4, h5, h6⟩ := hi
  have hadd : ∀ (b o j : Nat), (⟨b, o, none⟩ : Addr).add j = ⟨b, o + j, none⟩ := fun b o j => by
    unfold Addr.add
    split
    · rename_i h; subst h; rfl
    · rfl
  refine step_append_grows hg s x t hop e i z size bytes h1 h2 h3 h4 h5 h6 h7 (some ⟨b, 0, none⟩) n cap olds hs (fun h => by cases h) hlo (fun b' hb j u hu => by cases hb; rw [hadd]; exact holds j u hu)
    ⟨d, od, none⟩ m c news hx hn (fun j u hu => by rw [hadd]; exact hc j u hu) h1c hfull b1 b2 ?_
  intro v' w' hown hgr
  obtain ⟨hl, h | ⟨g, cap', cur, rfl, hb, hcur, _, _, hsz, htk⟩⟩ := hown
  · omega
  · have hlt : g < w'.heap.size := by
      rcases Nat.lt_or_ge g w'.heap.size with h | h
      · exact h
      · rw [Array.getElem?_eq_none h] at hcur; cases hcur
    refine hK g cap' w' hb hlt ⟨hgr.os, hgr.tape, hgr.output, hgr.size, fun k hk => hgr.block k hk (by simp)⟩ (fun j u hu => ?_)
    rw [cell_of_row w' g j cur e (0, 0) hcur]
    rw [← htk] at hu
    rw [List.getElem?_take] at hu
    split at hu
    · simpa using hu
    · cases hu
/-- .. or where nothing is appended. -/
theorem step_app0 {P : Program} {ops : Array Oper} {o : Oper} {a : Act} {w : World} {K : Act → World → Prop} {Q : Exit → Act → World → Prop} {E : Prop}
    (hg : o.guard = none) (s x : Operand) (t : TypeId) (hop : o.op = Op.call { callee := Callee.builtin Builtin.append, args := #[s, x], argTypes := #[t, t] })
    (e : TypeId) (size bytes : Nat) (h1 : P.underlying t = some (.slice e)) (hi : ∃ i z, P.info? e = some i ∧ i.zero = some z ∧ i.size = size ∧ i.bytes = bytes ∧ z.cells.size = size) (h7 : 0 < size)
    (b n cap : Nat) (olds : List Value) (hs : a.eval s = .slice (some ⟨b, 0, none⟩) n cap) (hlo : olds.length = n * size) (holds : ∀ j u, olds[j]? = some u → w.cell? ⟨b, 0 + j, none⟩ = some u)
    (d od m c : Nat) (news : List Value) (hx : a.eval x = .slice (some ⟨d, od, none⟩) m c) (hn : news.length = m * size) (hc : ∀ j u, news[j]? = some u → w.cell? ⟨d, od + j, none⟩ = some u) (h1c : ∀ u ∈ news, u.oneCell' = true)
    (hfull : cap < n + m ∨ (m = 0 ∧ n ≤ cap)) (hb : b < w.heap.size) (b1 : n + m ≤ maxLen) (b2 : (n + m) * bytes ≤ 140737488355328)
    (hK : ∀ g cap' w', (g = b ∨ w.heap.size ≤ g) → g < w'.heap.size → Ext w w' → (∀ j u, (olds ++ news)[j]? = some u → w'.cell? ⟨g, j, none⟩ = some u) → K (a.put o.dst (.slice (some ⟨g, 0, none⟩) (n + m) cap')) w') :
    if Region.wanted o (yielded ops a.tmps) = true then Oper.wp P o a w K Q else E := by
  rcases hfull with hfull | ⟨rfl, hcap⟩
  · exact step_app hg s x t hop e size bytes h1 hi h7 b n cap olds hs hlo holds d od m c news hx hn hc h1c hfull b1 b2 (fun g c' w' h1 h2 h3 h4 => hK g c' w' (.inr h1) h2 h3 h4)
  · obtain ⟨i, z, h2, h3, h4, h5, h6⟩ := hi
    obtain rfl : news = [] := List.eq_nil_of_length_eq_zero (by rw [hn, Nat.zero_mul])
    refine step_append_room hg s x t hop e i size h1 h2 h4 b 0 n cap hs ⟨d, od, none⟩ 0 c [] hx hn (fun j u hu => by simp at hu) (fun u hu => by simp at hu) hcap (fun j hj => by simp at hj) ?_
    exact hK b cap w (.inl rfl) hb (Ext.refl w) (fun j u hu => by
      rw [List.append_nil] at hu
      have := holds j u hu
      rwa [Nat.zero_add] at this)
theorem rowP_one {w : World} (L : List (Pr × Value)) (h : ∀ x ∈ L, CodeAt w x.2 x.1.cd) : ∀ u ∈ (L.map rowP).flatten, u.oneCell' = true := by
  intro u hu
  simp only [List.mem_flatten, List.mem_map] at hu
  obtain ⟨_, ⟨i, hi, rfl⟩, hu⟩ := hu
  obtain ⟨q, c, e, _⟩ := h i hi
  simp only [rowP, List.mem_cons, List.not_mem_nil, or_false] at hu
  rcases hu with rfl | rfl | rfl
  · rfl
  · rfl
  · rw [e]; rfl
theorem rowP_flat (L : List (Pr × Value)) {m : Nat} (h : L.length = m) : (L.map rowP).flatten.length = m * 3 := by
  rw [flat_len (rowP_len L), List.length_map, h]
theorem RowsAt.far {w : World} {b o k : Nat} {L : List (List Value)} (h : RowsAt w b o k L) {q : Addr} (hq : b ≠ q.block) (u : Value) : RowsAt (w.setCell q u) b o k L :=
  fun i hi r x hx => (World.cell?_of_block (a := ⟨b, o + i * k + r, none⟩) (Below.heap_setCell w q u b hq)).trans (h i hi r x hx)
theorem new_row (W : World) (cs : List Value) (t : TypeId) (j : Nat) (u : Value) (h : cs[j]? = some u) : (W.alloc (.cells cs.toArray t)).cell? ⟨W.heap.size, 0 + j, none⟩ = some u := by
  rw [Nat.zero_add, cell_of_row _ _ _ cs.toArray t (0, 0) (heap_alloc_new _ _)]; simpa using h
theorem rowI_one (l : List Ins) : ∀ u ∈ (l.map rowI).flatten, u.oneCell' = true := by
  intro u hu
  simp only [List.mem_flatten, List.mem_map] at hu
  obtain ⟨_, ⟨i, _, rfl⟩, hu⟩ := hu
  simp only [rowI, List.mem_cons, List.not_mem_nil, or_false] at hu
  rcases hu with rfl | rfl | rfl | rfl <;> rfl
theorem rowI_flat (l : List Ins) {m : Nat} (h : l.length = m) : (l.map rowI).flatten.length = m * 4 := by
  rw [flat_len (rowI_len l), List.length_map, h]
theorem info_instr : ∃ i z, Tryd.prog.info? 37 = some i ∧ i.zero = some z ∧ i.size = 4 ∧ i.bytes = 32 ∧ z.cells.size = 4 := ⟨_, _, rfl, rfl, rfl, rfl, rfl⟩
theorem info_proto : ∃ i z, Tryd.prog.info? 34 = some i ∧ i.zero = some z ∧ i.size = 3 ∧ i.bytes = 40 ∧ z.cells.size = 3 := ⟨_, _, rfl, rfl, rfl, rfl, rfl⟩
end Go.Proofs.YtifabbjgbfpfbaaDoor
