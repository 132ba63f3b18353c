/- ValuesNil: the law's walk. -/
import Derived.Test.YtidjibghicejaaaDoorNilA
import Derived.Test.YtidjibghicejaaaDoorLawE
import Derived.Deep.LoopGhost
namespace Go.Proofs.YtidjibghicejaaaDoor
open Go.RowKit
set_option linter.unusedVariables false
set_option linter.unusedSimpArgs false

theorem key_or (s : ByteArray) : ∀ l : List (Value × Value), (∀ x ∈ l, ∃ t, x.1 = .string t) → noKey .string (.string s) l = true ∨ ∃ v, under .string (.string s) l = some v
  | [], _ => .inl rfl
  | x :: l, h => by
    obtain ⟨t, ht⟩ := h x (List.mem_cons_self ..)
    obtain ⟨k, v⟩ := x
    simp only at ht
    subst ht
    have e : Instr.sameNow .string (.string s) (.string t) = some (s == t) := rfl
    cases hb : (s == t)
    · rcases key_or s l (fun y hy => h y (List.mem_cons_of_mem _ hy)) with h1 | ⟨u, h1⟩
      · left
        simp only [noKey, List.all_cons, e, hb] at h1 ⊢
        simpa using h1
      · right
        exact ⟨u, by simp only [under, e, hb]; simpa using h1⟩
    · right
      exact ⟨v, by simp [under, e, hb]⟩
theorem ops_keys : ∀ x ∈ opsL, ∃ t, x.1 = .string t := by
  intro x hx
  simp only [opsL, List.mem_cons, List.not_mem_nil, or_false] at hx
  rcases hx with rfl | rfl | rfl | rfl | rfl | rfl | rfl | rfl | rfl | rfl | rfl | rfl <;> exact ⟨_, rfl⟩
set_option maxRecDepth 100000 in
set_option maxHeartbeats 1000000 in
theorem op_nil (o : ByteArray) (a b : Vl) (w : World) : Calls Tryd.prog 11 #[.pointer none, .string o, a.v, b.v] w fun e w' => e = .returned (.tuple #[Vl.zero.v, .string sMemory]) ∧ Ext w w' := by
  rcases key_or o opsL ops_keys with hno | ⟨v, hv⟩
  · go_enter Tryd.func11, Tryd.ntmps11
    go_wp2_with fail
    refine (operators_any _).mono ?_
    rintro e w1 ⟨rfl, hw1⟩
    have k1 : Ext _ w1 := hw1 ▸ (Ext.refl _).alloc _
    have hm := (congrArg (fun x : World => x.heap[_]?) hw1).trans (heap_alloc_new _ _)
    have lk := run_lookup_none Tryd.underlying64 Tryd.underlying9 rfl opsL 12 _ (.string o) _ rfl hm hno true
    clear hw1 hm
    obtain ⟨z1, z2, z3⟩ := k1.lt3
    obtain ⟨p1, p2⟩ := k1.cells
    have k2 := ((((Ext.refl w).alloc _).alloc _).alloc _).trans k1
    simp only [size_alloc] at lk
    go_wp2_with fail
    exact bodyPost_ret (v := .tuple #[Vl.zero.v, .string sMemory]) (by simp [results, Tryd.results11, go_sem, sMemory, Vl.zero, *]) rfl ⟨rfl, ((k2.setCell (by simp <;> omega) _).setCell (by simp <;> omega) _).setCell (by simp <;> omega) _⟩
  · go_enter Tryd.func11, Tryd.ntmps11
    go_wp2_with fail
    refine (operators_any _).mono ?_
    rintro e w1 ⟨rfl, hw1⟩
    have k1 : Ext _ w1 := hw1 ▸ (Ext.refl _).alloc _
    have hm := (congrArg (fun x : World => x.heap[_]?) hw1).trans (heap_alloc_new _ _)
    have lk := run_lookup_lit Tryd.underlying64 Tryd.underlying9 rfl opsL 12 _ (.string o) v hm hv true
    clear hw1 hm hv
    obtain ⟨z1, z2, z3⟩ := k1.lt3
    obtain ⟨p1, p2⟩ := k1.cells
    have k2 := ((((Ext.refl w).alloc _).alloc _).alloc _).trans k1
    simp only [size_alloc] at lk
    go_wp2_with fail
    exact bodyPost_ret (v := .tuple #[Vl.zero.v, .string sMemory]) (by simp [results, Tryd.results11, go_sem, sMemory, Vl.zero, *]) rfl ⟨rfl, ((k2.setCell (by simp <;> omega) _).setCell (by simp <;> omega) _).setCell (by simp <;> omega) _⟩
theorem b_lt {w : World} {b o : Nat} {v : Value} (h : w.cell? ⟨b, o, none⟩ = some v) : b < w.heap.size := by
  rcases Nat.lt_or_ge b w.heap.size with hlt | hge
  · exact hlt
  · simp [World.cell?, Array.getElem?_eq_none hge] at h
/-- A step's ten cells. -/
abbrev stepC (n : Int) (t k v : Vl) : Array Value := #[.int .i64 n, .int .i64 t.k, .int .i64 t.n, .string t.s, .int .i64 k.k, .int .i64 k.n, .string k.s, .int .i64 v.k, .int .i64 v.n, .string v.s]
abbrev threeC (t k v : Vl) : Array Value := #[.int .i64 t.k, .int .i64 t.n, .string t.s, .int .i64 k.k, .int .i64 k.n, .string k.s, .int .i64 v.k, .int .i64 v.n, .string v.s]
def threeF (t k v : Vl) (i : Nat) : ByteArray := if i = 0 then t.s else if i = 1 then k.s else v.s
theorem long_three (w2 : World) (t k v : Vl) (h1 : t.s.size ≤ 9223372036854775807) (h2 : k.s.size ≤ 9223372036854775807) (h3 : v.s.size ≤ 9223372036854775807) :
    Calls Tryd.prog 7 #[.slice (some ⟨w2.heap.size, 0, none⟩) 3 3] (w2.alloc (.cells (threeC t k v) 24)) fun e w' => e = .returned (.bool (longF (threeF t k v) 0 3)) ∧ w' = w2.alloc (.cells (threeC t k v) 24) :=
  long_any w2.heap.size 3 (threeF t k v) _ (by omega) (fun i hi => by
    rw [cell_of_row _ _ _ _ _ _ (heap_alloc_new _ _)]
    have : i = 0 ∨ i = 1 ∨ i = 2 := by omega
    rcases this with rfl | rfl | rfl <;> rfl) (fun i _ => by unfold threeF; repeat (first | assumption | split))
def SaysBool (w : World) (e : Ending) (w' : World) : Prop := ∃ b : Bool, e = .returned (.bool b) ∧ Ext w w'
set_option maxRecDepth 100000 in
set_option maxHeartbeats 2000000 in
theorem vast_one (B : Nat) (n : Int) (t k v : Vl) (w : World) (h : Blk w B 46 (stepC n t k v)) (h1 : t.s.size ≤ 9223372036854775807) (h2 : k.s.size ≤ 9223372036854775807) (h3 : v.s.size ≤ 9223372036854775807) :
    Calls Tryd.prog 18 #[.slice (some ⟨B, 0, none⟩) 1 1] w (SaysBool w) := by
  have b1 : w.cell? ⟨B, 1, none⟩ = some (.int .i64 t.k) := h.cell 1
  have b2 : w.cell? ⟨B, 2, none⟩ = some (.int .i64 t.n) := h.cell 2
  have b3 : w.cell? ⟨B, 3, none⟩ = some (.string t.s) := h.cell 3
  have b4 : w.cell? ⟨B, 4, none⟩ = some (.int .i64 k.k) := h.cell 4
  have b5 : w.cell? ⟨B, 5, none⟩ = some (.int .i64 k.n) := h.cell 5
  have b6 : w.cell? ⟨B, 6, none⟩ = some (.string k.s) := h.cell 6
  have b7 : w.cell? ⟨B, 7, none⟩ = some (.int .i64 v.k) := h.cell 7
  have b8 : w.cell? ⟨B, 8, none⟩ = some (.int .i64 v.n) := h.cell 8
  have b9 : w.cell? ⟨B, 9, none⟩ = some (.string v.s) := h.cell 9
  clear h
  go_enter Tryd.func18, Tryd.ntmps18
  go_wp2_with fail
  go_loopg [3] 1 (fun g s3 wr => ∃ j : Nat, j + g = 1 ∧ s3 = .int .i64 j ∧ Ext w wr)
  case atStart => exact ⟨0, by omega, rfl, Ext.refl _⟩
  case round =>
    obtain ⟨j, hj, rfl, he⟩ := hrel
    cases gk with
    | zero =>
      obtain rfl : j = 1 := by omega
      have HE := Lib.hid he
      clear he b1 b2 b3 b4 b5 b6 b7 b8 b9
      go_wp2_with fail
      go_ret
      exact ⟨false, rfl, HE.out⟩
    | succ g =>
      obtain rfl : j = 0 := by omega
      replace b1 := (he.cells.1 _ 1 (b_lt b1)).trans b1
      replace b2 := (he.cells.1 _ 2 (b_lt b2)).trans b2
      replace b3 := (he.cells.1 _ 3 (b_lt b3)).trans b3
      replace b4 := (he.cells.1 _ 4 (b_lt b4)).trans b4
      replace b5 := (he.cells.1 _ 5 (b_lt b5)).trans b5
      replace b6 := (he.cells.1 _ 6 (b_lt b6)).trans b6
      replace b7 := (he.cells.1 _ 7 (b_lt b7)).trans b7
      replace b8 := (he.cells.1 _ 8 (b_lt b8)).trans b8
      replace b9 := (he.cells.1 _ 9 (b_lt b9)).trans b9
      have HE := Lib.hid he
      clear he
      go_wp2_with fail
      go_still_tail 15, (by kernel_rfl)
      change wpList _ _ _ _ _ (World.drew _)
      have HD := HE.out.drew
      clear HE
      generalize World.drew _ = w2 at HD ⊢
      go_wp2_with fail
      refine (long_three w2 t k v h1 h2 h3).mono ?_
      rintro e w3 ⟨rfl, rfl⟩
      have HE := Lib.hid (HD.alloc (.cells (threeC t k v) 24))
      clear HD b1 b2 b3 b4 b5 b6 b7 b8 b9
      generalize longF _ 0 3 = bl
      cases bl
      · go_wp2_with fail
        go_roundg g
        case rel => exact ⟨1, by omega, rfl, HE.out⟩
        case measure => exact Nat.lt_succ_self _
      · go_wp2_with fail
        go_ret
        exact ⟨true, rfl, HE.out⟩
set_option maxRecDepth 100000 in
set_option maxHeartbeats 4000000 in
theorem nil_law (n : Int) (t k v : Vl) (o : ByteArray) (w : World) (ht : Pow w) (h1 : t.s.size ≤ 9223372036854775807) (h2 : k.s.size ≤ 9223372036854775807) (h3 : v.s.size ≤ 9223372036854775807) (ho : o.size ≤ 9223372036854775807)
    (q : Bool) (hq : decide (500 < (o.size : Int)) = q) :
    Calls Tryd.prog 6 #[.agg (stepC n t k v), .string o] w fun e w' => e = .returned (.bool true) ∧ Ext w w' := by
  have t1 : sMemory.toList = [109, 101, 109, 111, 114, 121] := by rw [Lib.toList_data]; rfl
  go_enter Tryd.func6, Tryd.ntmps6
  go_wp2_with fail
  refine (vast_one _ n t k v _ (new_at (size_alloc _ _).symm _) h1 h2 h3).mono ?_
  rintro e w1 ⟨b, rfl, e1⟩
  have k0 := (((Ext.refl w).alloc _).alloc _).trans e1
  have hb : Blk w1 w.heap.size 46 (stepC n t k v) := ((Blk.new w _ _).alloc _).ext e1
  clear e1
  cases b
  rotate_left
  · go_wp2_with fail
    refine (known_any _ (ht.ext ?_)).mono ?_
    · repeat (first | exact k0 | refine Ext.alloc ?_ _)
    rintro e w2 ⟨rfl, e2⟩
    go_wp2_with fail
    go_ret
    exact ⟨rfl, Ext.trans (by repeat (first | exact k0 | refine Ext.alloc ?_ _)) e2⟩
  cases q
  rotate_left
  · go_wp2_with fail
    refine (known_any _ (ht.ext ?_)).mono ?_
    · repeat (first | exact k0 | refine Ext.alloc ?_ _)
    rintro e w2 ⟨rfl, e2⟩
    go_wp2_with fail
    go_ret
    exact ⟨rfl, Ext.trans (by repeat (first | exact k0 | refine Ext.alloc ?_ _)) e2⟩
  have lt := hb.lt
  have b1 : w1.cell? ⟨w.heap.size, 1, none⟩ = some (.int .i64 t.k) := hb.cell 1
  have b2 : w1.cell? ⟨w.heap.size, 2, none⟩ = some (.int .i64 t.n) := hb.cell 2
  have b3 : w1.cell? ⟨w.heap.size, 3, none⟩ = some (.string t.s) := hb.cell 3
  have b4 : w1.cell? ⟨w.heap.size, 4, none⟩ = some (.int .i64 k.k) := hb.cell 4
  have b5 : w1.cell? ⟨w.heap.size, 5, none⟩ = some (.int .i64 k.n) := hb.cell 5
  have b6 : w1.cell? ⟨w.heap.size, 6, none⟩ = some (.string k.s) := hb.cell 6
  have b7 : w1.cell? ⟨w.heap.size, 7, none⟩ = some (.int .i64 v.k) := hb.cell 7
  have b8 : w1.cell? ⟨w.heap.size, 8, none⟩ = some (.int .i64 v.n) := hb.cell 8
  have b9 : w1.cell? ⟨w.heap.size, 9, none⟩ = some (.string v.s) := hb.cell 9
  clear hb
  have HK := Lib.hid k0
  clear k0
  have k1 := Ext.refl w1
  go_wp2_with fail
  refine (table_nil _).mono ?_
  rintro e wa ⟨rfl, ee⟩
  have k2 : Ext w1 wa := by
    refine Ext.trans ?_ ee
    repeat (first | exact k1 | refine Ext.alloc ?_ _ | refine Ext.setCell ?_ (by simp <;> omega) _)
  have l2 := k2.le
  have le2 := ee.le
  have lx2 : w.heap.size < wa.heap.size := Nat.lt_of_lt_of_le lt l2
  have nx2 : ¬ w.heap.size = wa.heap.size := by omega
  have ny2 : ¬ wa.heap.size = w.heap.size := by omega
  skip
  try simp only [size_alloc] at le2
  obtain ⟨p1, p2⟩ := k2.cells
  clear ee
  go_wp2_with fail
  refine (get_nil t k _).mono ?_
  rintro e wb ⟨rfl, ee⟩
  have k3 : Ext w1 wb := by
    refine Ext.trans ?_ ee
    repeat (first | exact k2 | refine Ext.alloc ?_ _ | refine Ext.setCell ?_ (by simp <;> omega) _)
  have l3 := k3.le
  have le3 := ee.le
  have lx3 : w.heap.size < wb.heap.size := Nat.lt_of_lt_of_le lt l3
  have nx3 : ¬ w.heap.size = wb.heap.size := by omega
  have ny3 : ¬ wb.heap.size = w.heap.size := by omega
  clear p1 p2
  try simp only [size_alloc] at le3
  obtain ⟨p1, p2⟩ := k3.cells
  clear ee
  go_wp2_with fail
  refine (set_nil t k v _).mono ?_
  rintro e wc ⟨rfl, ee⟩
  have k4 : Ext w1 wc := by
    refine Ext.trans ?_ ee
    repeat (first | exact k3 | refine Ext.alloc ?_ _ | refine Ext.setCell ?_ (by simp <;> omega) _)
  have l4 := k4.le
  have le4 := ee.le
  have lx4 : w.heap.size < wc.heap.size := Nat.lt_of_lt_of_le lt l4
  have nx4 : ¬ w.heap.size = wc.heap.size := by omega
  have ny4 : ¬ wc.heap.size = w.heap.size := by omega
  clear p1 p2
  try simp only [size_alloc] at le4
  obtain ⟨p1, p2⟩ := k4.cells
  clear ee
  go_wp2_with fail
  refine (len_nil t _).mono ?_
  rintro e wd ⟨rfl, ee⟩
  have k5 : Ext w1 wd := by
    refine Ext.trans ?_ ee
    repeat (first | exact k4 | refine Ext.alloc ?_ _ | refine Ext.setCell ?_ (by simp <;> omega) _)
  have l5 := k5.le
  have le5 := ee.le
  have lx5 : w.heap.size < wd.heap.size := Nat.lt_of_lt_of_le lt l5
  have nx5 : ¬ w.heap.size = wd.heap.size := by omega
  have ny5 : ¬ wd.heap.size = w.heap.size := by omega
  clear p1 p2
  try simp only [size_alloc] at le5
  obtain ⟨p1, p2⟩ := k5.cells
  clear ee
  go_wp2_with fail
  refine (keys_nil t _).mono ?_
  rintro e we ⟨rfl, ee⟩
  have k6 : Ext w1 we := by
    refine Ext.trans ?_ ee
    repeat (first | exact k5 | refine Ext.alloc ?_ _ | refine Ext.setCell ?_ (by simp <;> omega) _)
  have l6 := k6.le
  have le6 := ee.le
  have lx6 : w.heap.size < we.heap.size := Nat.lt_of_lt_of_le lt l6
  have nx6 : ¬ w.heap.size = we.heap.size := by omega
  have ny6 : ¬ we.heap.size = w.heap.size := by omega
  clear p1 p2
  try simp only [size_alloc] at le6
  obtain ⟨p1, p2⟩ := k6.cells
  clear ee
  go_wp2_with fail
  refine (make_nil v.s _).mono ?_
  rintro e wf ⟨rfl, ee⟩
  have k7 : Ext w1 wf := by
    refine Ext.trans ?_ ee
    repeat (first | exact k6 | refine Ext.alloc ?_ _ | refine Ext.setCell ?_ (by simp <;> omega) _)
  have l7 := k7.le
  have le7 := ee.le
  have lx7 : w.heap.size < wf.heap.size := Nat.lt_of_lt_of_le lt l7
  have nx7 : ¬ w.heap.size = wf.heap.size := by omega
  have ny7 : ¬ wf.heap.size = w.heap.size := by omega
  clear p1 p2
  try simp only [size_alloc] at le7
  obtain ⟨p1, p2⟩ := k7.cells
  clear ee
  go_wp2_with fail
  refine (op_nil o k v _).mono ?_
  rintro e wg ⟨rfl, ee⟩
  have k8 : Ext w1 wg := by
    refine Ext.trans ?_ ee
    repeat (first | exact k7 | refine Ext.alloc ?_ _ | refine Ext.setCell ?_ (by simp <;> omega) _)
  have l8 := k8.le
  have le8 := ee.le
  have lx8 : w.heap.size < wg.heap.size := Nat.lt_of_lt_of_le lt l8
  have nx8 : ¬ w.heap.size = wg.heap.size := by omega
  have ny8 : ¬ wg.heap.size = w.heap.size := by omega
  clear p1 p2
  try simp only [size_alloc] at le8
  obtain ⟨p1, p2⟩ := k8.cells
  clear ee
  go_wp2_with fail
  refine (spent_nil _).mono ?_
  rintro e wh ⟨rfl, rfl⟩
  go_wp2_with fail
  refine (known_any _ (ht.ext ?_)).mono ?_
  · refine HK.out.trans ?_
    repeat (first | exact k8 | refine Ext.alloc ?_ _ | refine Ext.setCell ?_ (by simp <;> omega) _)
  rintro e w2 ⟨rfl, e2⟩
  go_wp2_with fail
  go_ret
  refine ⟨rfl, HK.out.trans (Ext.trans ?_ e2)⟩
  repeat (first | exact k8 | refine Ext.alloc ?_ _ | refine Ext.setCell ?_ (by simp <;> omega) _)
end Go.Proofs.YtidjibghicejaaaDoor
