/- Arguments of chapter 15 opened: values, rows of values, of numbers, worlds. The heaps of a world: the law's heap, heapOf. sameTables: two heaps that stand for one are told the same. Arguments copied; both heaps at once. asks: what a function tells, in both, is the same. -/
import Derived.Test.YtfagldjhibdfhaaGreatDoorYB6
import Derived.Test.YtfagldjhibdfhaaGreatDoorYA8
import Derived.Test.YtfagldjhibdfhaaGreatDoorYE2
namespace Go.Proofs.YtfagldjhibdfhaaGreatDoor
open Go.ChangeShapes Go.WideShapes Go.ChangeAt Go.RowKit Go.Joins Go.Deep
set_option linter.unusedVariables false
set_option linter.unusedSimpArgs false

theorem wf_in64 {n : Int} (h : (Lit.int .i64 n).wf = true) : in64 n := by
 simp [Lit.wf, IntKind.min, IntKind.max, IntKind.signed, IntKind.bits] at h
 unfold in64
 omega
theorem cell_plain {w : World} {a : Addr} {v : Value} (h : w.cell? a = some v) : a.spot = none := by
 unfold World.cell? at h
 split at h
 ·split at h
  ·cases h
  ·rename_i hs; simpa using hs
 ·cases h
theorem plain_eq {a : Addr} (h : a.spot = none) : a = ⟨a.block, a.off, none⟩ := by cases a; simp at h; subst h; rfl
theorem add_at (b o k : Nat) : (⟨b, o, none⟩ : Addr).add k = ⟨b, o + k, none⟩ := by
 unfold Addr.add
 split
 ·rename_i h; subst h; rfl
 ·rfl
theorem head_plain {w : World} {base : Nat} {a : Addr} {n : Nat} {cs : List Value} (h : w.cells? base (a.add (0 * n)) n = some cs) (hn : 0 < n) : a = ⟨a.block, a.off, none⟩ := by
 obtain ⟨_, hl, hc⟩ := World.cells?_some h
 have h0 := hc 0 hn
 rw [List.getElem?_eq_getElem (by omega)] at h0
 have := cell_plain h0
 simp [Addr.add] at this
 exact plain_eq this
theorem cellV : Tryz.prog.cellsOf 26 = 3 := by kernel_rfl
theorem cellK : Tryz.prog.cellsOf 24 = 1 := by kernel_rfl
theorem cellI : Tryz.prog.cellsOf 2 = 1 := by kernel_rfl
theorem cellN : Tryz.prog.cellsOf 3 = 1 := by kernel_rfl
theorem cellS : Tryz.prog.cellsOf 9 = 1 := by kernel_rfl
theorem cellIt : Tryz.prog.cellsOf 88 = 6 := by kernel_rfl
theorem cellIs : Tryz.prog.cellsOf 86 = 1 := by kernel_rfl
theorem cellIss : Tryz.prog.cellsOf 39 = 1 := by kernel_rfl
theorem cellW : Tryz.prog.cellsOf 41 = 2 := by kernel_rfl
theorem cellP : Tryz.prog.cellsOf 43 = 5 := by kernel_rfl
theorem uI64 : Tryz.prog.underlying 2 = some (.int .i64) := by kernel_rfl
theorem uInt : Tryz.prog.underlying 3 = some (.int .i64) := by kernel_rfl
theorem uKnd : Tryz.prog.underlying 24 = some (.int .i64) := by kernel_rfl
theorem uStr : Tryz.prog.underlying 9 = some .string := by kernel_rfl
structure VIn (x : Vl) : Prop where
 k : in64 x.k
 n : in64 x.n
 s : x.s.size ≤ maxLen
instance : Inhabited Vl := ⟨Vl.zero⟩
variable {H : Type} {enc : TypeId × Value → H} {w : World} {base : Nat} {sp : Nat → Bool} {hd : Bool}
theorem val_cells {n : Nat} {c0 c1 c2 : Value} {y : DataW H × List MemPlace} (h : DataW.trod enc Tryz.prog w base sp hd n 26 [c0, c1, c2] = some y) :
  ∃ x : Vl, c0 = .int .i64 x.k ∧ c1 = .int .i64 x.n ∧ c2 = .string x.s ∧ VIn x := by
 obtain ⟨y0, y1, y2, m, rfl, _, h0, h1, h2⟩ := trod_struct3 Tryz.underlying26 h
 obtain ⟨k, e0, rfl, wk⟩ := DataW.trod_int uKnd h0
 obtain ⟨a, e1, rfl, wa⟩ := DataW.trod_int uI64 h1
 obtain ⟨s, e2, rfl, ws⟩ := DataW.trod_string uStr h2
 simp only [cellK, cellI, cellS, List.drop_zero, List.drop_succ_cons, List.take_succ_cons, List.take_zero, List.cons.injEq, and_true] at e0 e1 e2
 exact ⟨⟨k, a, s⟩, e0, e1, e2, wf_in64 wk, wf_in64 wa, ws⟩
theorem array3 {a : Array Value} (h : a.size = 3) : ∃ x y z, a = #[x, y, z] := by
 obtain ⟨l⟩ := a
 match l, h with
 | [x, y, z], _ => exact ⟨x, y, z, rfl⟩
theorem array5 {a : Array Value} (h : a.size = 5) : ∃ x y z u v, a = #[x, y, z, u, v] := by
 obtain ⟨l⟩ := a
 match l, h with
 | [x, y, z, u, v], _ => exact ⟨x, y, z, u, v, rfl⟩
theorem array2 {a : Array Value} (h : a.size = 2) : ∃ x y, a = #[x, y] := by
 obtain ⟨l⟩ := a
 match l, h with
 | [x, y], _ => exact ⟨x, y, rfl⟩
set_option maxRecDepth 100000 in
theorem val_open {v : Value} {d : DataW H} {p : List MemPlace} {r : Reach} {b0 : Nat} (hv : Value.okWide Tryz.prog w r b0 26 v) (h : DataW.Trod enc Tryz.prog w base sp hd 26 v d p) :
  ∃ x : Vl, v = x.v ∧ VIn x := by
 obtain ⟨cs, rfl, hsz⟩ := okWide_struct Tryz.underlying26 hv
 obtain ⟨c0, c1, c2, rfl⟩ := array3 (hsz.trans cellV)
 obtain ⟨fuel, hf⟩ := h
 obtain ⟨x, rfl, rfl, rfl, hx⟩ := val_cells (by simpa [Value.cells] using hf)
 exact ⟨x, rfl, hx⟩
set_option maxRecDepth 100000 in
theorem put_open {v : Value} {d : DataW H} {p : List MemPlace} {r : Reach} {b0 : Nat} (hv : Value.okWide Tryz.prog w r b0 43 v) (h : DataW.Trod enc Tryz.prog w base sp hd 43 v d p) :
  ∃ (t q : Int) (x : Vl), v = .agg #[.int .i64 t, .int .i64 q, .int .i64 x.k, .int .i64 x.n, .string x.s] ∧ in64 t ∧ in64 q ∧ VIn x := by
 obtain ⟨cs, rfl, hsz⟩ := okWide_struct Tryz.underlying43 hv
 obtain ⟨c0, c1, c2, c3, c4, rfl⟩ := array5 (hsz.trans cellP)
 obtain ⟨fuel, hf⟩ := h
 obtain ⟨y0, y1, y2, m, _, _, h0, h1, h2⟩ := trod_struct3 Tryz.underlying43 hf
 obtain ⟨t, e0, rfl, wt⟩ := DataW.trod_int uInt h0
 obtain ⟨q, e1, rfl, wq⟩ := DataW.trod_int uI64 h1
 simp only [Value.cells, cellN, cellI, cellV, List.drop_zero, List.drop_succ_cons, List.take_succ_cons, List.take_zero, List.cons.injEq, and_true] at e0 e1 h2
 obtain rfl := e0
 obtain rfl := e1
 obtain ⟨x, rfl, rfl, rfl, hx⟩ := val_cells (by simpa using h2)
 exact ⟨t, q, x, rfl, wf_in64 wt, wf_in64 wq, hx⟩
def ValsAt (w : World) (q : Option Addr) (l : List Vl) : Prop := ∀ i x, l[i]? = some x → ∃ b o, q = some ⟨b, o, none⟩ ∧ ArgAt w b (o + i * 3) x
theorem ValsAt.args {w : World} {q : Option Addr} {l : List Vl} (h : ValsAt w q l) (hl : l.length ≤ 1048576) : ArgsAt w q l := ⟨hl, h⟩
theorem ValsAt.ext {w w' : World} {q : Option Addr} {l : List Vl} (h : ValsAt w q l) (he : Ext w w') : ValsAt w' q l := fun i x hx => let ⟨b, o, e, a⟩ := h i x hx; ⟨b, o, e, a.ext he⟩
end Go.Proofs.YtfagldjhibdfhaaGreatDoor
namespace Go.Proofs.YtfagldjhibdfhaaGreatDoor
open Go.RowKit
set_option linter.unusedVariables false
set_option linter.unusedSimpArgs false

def tabsI : Nat → Hp → Hp
 | 0, H => H
 | i + 1, H => tabH (tabsI i H)
def itemsP (t : Vl) : Tb → Hp → Hp
 | [], H => H
 | x :: r, H => itemsP t r (setH H t x.1 x.2)
def fillP : Nat → List Tb → Hp → Hp
 | _, [], H => H
 | i, T :: r, H => fillP (i + 1) r (itemsP ⟨4, (i : Int), eN⟩ T H)
def worldP (c : Int) (ts : List Tb) : Hp := fillP 0 ts (tabsI ts.length (newH c))
theorem tabH_len (H : Hp) : (tabH H).tabs.length ≤ H.tabs.length + 1 := by
 unfold tabH
 split
 ·show (H.tabs ++ [[]]).length ≤ _
  rw [List.length_append]; exact Nat.le_refl _
 ·omega
theorem tabsI_len (H : Hp) : ∀ i, (tabsI i H).tabs.length ≤ H.tabs.length + i
 | 0 => Nat.le_refl _
 | i + 1 => by
  have := tabH_len (tabsI i H)
  have := tabsI_len H i
  show (tabH (tabsI i H)).tabs.length ≤ _
  omega
theorem itemsP_len (t : Vl) : ∀ (T : Tb) (H : Hp), (itemsP t T H).tabs.length = H.tabs.length
 | [], H => rfl
 | x :: r, H => by
  show (itemsP t r (setH H t x.1 x.2)).tabs.length = _
  rw [itemsP_len t r, setH_len]
theorem fillP_len : ∀ (ts : List Tb) (i : Nat) (H : Hp), (fillP i ts H).tabs.length = H.tabs.length
 | [], i, H => rfl
 | T :: r, i, H => by
  show (fillP (i + 1) r (itemsP ⟨4, (i : Int), eN⟩ T H)).tabs.length = _
  rw [fillP_len r, itemsP_len]
theorem worldP_len (c : Int) (ts : List Tb) : (worldP c ts).tabs.length ≤ ts.length := by
 unfold worldP
 rw [fillP_len]
 have := tabsI_len (newH c) ts.length
 have h0 : (newH c).tabs.length = 0 := rfl
 omega
theorem items_step (t : Vl) (T : Tb) (k : Nat) (H : Hp) (x : Vl × Vl) (hx : T[k]? = some x) : itemsP t (T.drop k) H = itemsP t (T.drop (k + 1)) (setH H t x.1 x.2) := by
 obtain ⟨hl, he⟩ := List.getElem?_eq_some_iff.1 hx
 rw [List.drop_eq_getElem_cons hl, he]
 rfl
theorem fill_step (ts : List Tb) (i : Nat) (H : Hp) (T : Tb) (hx : ts[i]? = some T) : fillP i (ts.drop i) H = fillP (i + 1) (ts.drop (i + 1)) (itemsP ⟨4, (i : Int), eN⟩ T H) := by
 obtain ⟨hl, he⟩ := List.getElem?_eq_some_iff.1 hx
 rw [List.drop_eq_getElem_cons hl, he]
 rfl
def ItemsAt (w : World) (q : Option Addr) (T : Tb) : Prop := ∀ j x, T[j]? = some x → ∃ b o, q = some ⟨b, o, none⟩ ∧ ArgAt w b (o + j * 6) x.1 ∧ ArgAt w b (o + j * 6 + 3) x.2
def TablesAt (w : World) (q : Option Addr) (ts : List Tb) : Prop := ∀ i T, ts[i]? = some T → ∃ b o qi ci, q = some ⟨b, o, none⟩ ∧ b < w.heap.size ∧ w.cell? ⟨b, o + i, none⟩ = some (.slice qi T.length ci) ∧ ItemsAt w qi T
theorem ItemsAt.ext {w w' : World} {q : Option Addr} {T : Tb} (h : ItemsAt w q T) (he : Ext w w') : ItemsAt w' q T := fun j x hx => let ⟨b, o, e, a, c⟩ := h j x hx; ⟨b, o, e, a.ext he, c.ext he⟩
theorem TablesAt.ext {w w' : World} {q : Option Addr} {ts : List Tb} (h : TablesAt w q ts) (he : Ext w w') : TablesAt w' q ts := fun i T hT =>
 let ⟨b, o, qi, ci, e, hb, hc, hi⟩ := h i T hT; ⟨b, o, qi, ci, e, Nat.lt_of_lt_of_le hb he.le, (he.cells.1 b _ hb).trans hc, hi.ext he⟩
structure WIn (c : Int) (ts : List Tb) : Prop where
 c : in64 c
 many : ts.length ≤ 1000000
 items : ∀ T ∈ ts, T.length ≤ 9223372036854775807 ∧ ∀ x ∈ T, in64 x.1.n ∧ in64 x.2.n
structure NR (w0 w : World) (g : Nat) (H : Hp) : Prop where
 ex : ∃ tv, RHeapIn w g tv H ∧ ∀ x, RFoot g tv x → w0.heap.size ≤ x
 ext : Ext w0 w
theorem NR.ext' {w0 w w' : World} {g : Nat} {H : Hp} (h : NR w0 w g H) (he : Ext w w') : NR w0 w' g H := let ⟨tv, h1, h2⟩ := h.ex; ⟨⟨tv, h1.ext he, h2⟩, h.ext.trans he⟩
theorem nr_new {w0 w : World} (c : Int) (he : Ext w0 w) (hc : c ≤ 9223372036854775807) (hc' : -9223372036854775808 ≤ c) :
  Calls Tryz.prog 82 #[.int .i64 c] w fun e w' => ∃ g, e = .returned (.pointer (some ⟨g, 0, none⟩)) ∧ NR w0 w' g (newH c) := by
 refine (rnew_any c w hc hc').mono ?_
 rintro e w' ⟨rfl, rfl⟩
 refine ⟨_, rfl, ⟨.slice none 0 0, ⟨Blk.new _ _ _, ⟨[], World.ownsRow_nil _ _ _ _, rfl, fun i r T hr => by simp at hr⟩, ⟨fun T hT => (List.not_mem_nil hT).elim, by show (0 : Int) ≤ 0; omega, by show (0 : Int) ≤ max c 0; omega, by show max c 0 ≤ (9223372036854775807 : Int); omega⟩⟩, ?_⟩, he.alloc _⟩
 rintro x (rfl | hx)
 ·exact he.le
 ·simp [Value.ownBlock] at hx
theorem nr_table {w0 w : World} {g : Nat} {H : Hp} (h : NR w0 w g H) (hlen : H.tabs.length ≤ 1000000000000) :
  Calls Tryz.prog 83 #[.pointer (some ⟨g, 0, none⟩)] w fun e w' => e = .returned (.tuple #[(tabV H).v, .string (tabW H)]) ∧ NR w0 w' g (tabH H) := by
 obtain ⟨tv, h1, h2⟩ := h.ex
 refine (rtable_step g tv H w h1 hlen).mono ?_
 rintro e w' ⟨rfl, tv', hs⟩
 refine ⟨rfl, ⟨tv', hs.heap, fun x hx => ?_⟩, hs.touch.to_ext h.ext h2⟩
 rcases hs.foot x hx with hx | hx
 ·exact h2 x hx
 ·exact Nat.le_trans h.ext.le hx
theorem nr_set {w0 w : World} {g : Nat} {H : Hp} (h : NR w0 w g H) (hlen : H.tabs.length ≤ 9223372036854775807) (t k v : Vl) (hk : in64 k.n) (hv : in64 v.n) :
  Calls Tryz.prog 84 #[.pointer (some ⟨g, 0, none⟩), t.v, k.v, v.v] w fun e w' => e = .returned (.string (setW H t k v)) ∧ NR w0 w' g (setH H t k v) := by
 obtain ⟨tv, h1, h2⟩ := h.ex
 refine (rset_any g tv H t k v w h1 hlen hk hv).mono ?_
 rintro e w' ⟨rfl, hh, ht⟩
 exact ⟨rfl, ⟨tv, hh, h2⟩, ht.to_ext h.ext h2⟩
set_option maxRecDepth 100000 in
theorem table_any (n : Int) (w : World) : Calls Tryz.prog 26 #[.int .i64 n] w fun e w' => e = .returned (vv 4 n eN) ∧ Ext w w' := by
 go_enter Tryz.func26, Tryz.ntmps26
 go_wp2_with fail
 exact bodyPost_ret (v := vv 4 n eN) (by simp [results, Tryz.results26, go_sem]) rfl ⟨rfl, (Ext.refl w).alloc _⟩
theorem NH.back {w W1 wr : World} {g : Nat} {H : Hp} (he : Ext w W1) (h : NH W1 wr g H []) : NH w wr g H [] := by
 obtain ⟨tv, rs, h1, h2, h3⟩ := h.ex
 exact ⟨⟨tv, rs, h1, fun x hx => Nat.le_trans he.le (h2 x hx), fun p hp => (List.not_mem_nil hp).elim⟩, he.trans h.ext, fun p hp => (List.not_mem_nil hp).elim, List.nodup_nil⟩
theorem NR.back {w W1 wr : World} {g : Nat} {H : Hp} (he : Ext w W1) (h : NR W1 wr g H) : NR w wr g H := by
 obtain ⟨tv, h1, h2⟩ := h.ex
 exact ⟨⟨tv, h1, fun x hx => Nat.le_trans he.le (h2 x hx)⟩, he.trans h.ext⟩
set_option maxRecDepth 100000 in
set_option maxHeartbeats 8000000 in
theorem heap_any (w : World) (c : Int) (q : Option Addr) (cap : Nat) (ts : List Tb) (hw : WIn c ts) (ht : TablesAt w q ts) :
  Calls Tryz.prog 25 #[.agg #[.int .i64 c, .slice q ts.length cap]] w fun e w' => ∃ g, e = .returned (.pointer (some ⟨g, 0, none⟩)) ∧ NH w w' g (worldP c ts) [] := by
 obtain ⟨R, hR⟩ : ∃ R, worldP c ts = R := ⟨_, rfl⟩
 rw [hR]
 have HRR := Lib.hid hR
 obtain ⟨n, hn⟩ : ∃ n, ts.length = n := ⟨_, rfl⟩
 have hn2 : n ≤ 1000000 := by rw [← hn]; exact hw.many
 have HWI := Lib.hid hw
 have HTS := Lib.hid ht
 have HNN := Lib.hid hn
 have hc := hw.c
 obtain ⟨hc1, hc2⟩ := hc
 rw [hn]
 clear hR hw ht hn
 go_enter Tryz.func25, Tryz.ntmps25
 go_wp2_with fail
 have HE0 := Lib.hid ((Ext.refl w).alloc (.cells #[.int .i64 c, .slice q n cap] 41))
 have HBX := Lib.hid (Blk.new w 41 #[.int .i64 c, .slice q n cap])
 have hsz : (w.alloc (.cells #[.int .i64 c, .slice q n cap] 41)).heap.size = w.heap.size + 1 := size_alloc _ _
 have HT1 := Lib.hid (HTS.out.ext HE0.out)
 refine (nh_new c (Ext.refl (w.alloc (.cells #[.int .i64 c, .slice q n cap] 41))) hc2 hc1).mono ?_
 generalize w.alloc (.cells #[.int .i64 c, .slice q n cap] 41) = W1 at *
 obtain ⟨B0, hB0⟩ : ∃ B0, w.heap.size = B0 := ⟨_, rfl⟩
 rw [hB0] at HBX hsz ⊢
 clear hB0
 rintro e w1 ⟨g, rfl, n1⟩
 have N : Hid (NH W1 w1 g (newH c) []) := Lib.hid n1
 clear n1
 obtain ⟨a0, a1⟩ := (⟨HBX.out.cell 0, HBX.out.cell 1⟩ : W1.cell? ⟨B0, 0, none⟩ = some (.int .i64 c) ∧ W1.cell? ⟨B0, 1, none⟩ = some (.slice q n cap))
 have hB : B0 < W1.heap.size := HBX.out.lt
 have AB := Lib.hid (And.intro a0 a1)
 clear a0 a1
 have y1 := (N.out.ext.cells.1 _ _ hB).trans AB.out.2
 have hBl : B0 < w1.heap.size := Nat.lt_of_lt_of_le hB N.out.ext.le
 go_wp2_with fail
 clear y1 hBl
 go_loopw [4] (fun s4 wr => ∃ i : Nat, s4 = .int .i64 (i : Int) ∧ i ≤ n ∧ Hid (NH W1 wr g (tabsI i (newH c)) [])) (fun s4 _ => n - (intOf s4).toNat)
 case atStart => exact ⟨0, rfl, Nat.zero_le _, N⟩
 case round =>
  obtain ⟨i, rfl, hi, HN⟩ := hrel
  clear N
  have y1 := (HN.out.ext.cells.1 _ _ hB).trans AB.out.2
  have hBl : B0 < wr.heap.size := Nat.lt_of_lt_of_le hB HN.out.ext.le
  by_cases hlt : i < n
  ·have hd : decide ((i : Int) < (n : Int)) = true := decide_eq_true (by omega)
   have hd' : decide (i < n) = true := decide_eq_true hlt
   have hl9 : (tabsI i (newH c)).tabs.length ≤ 1000000000000 := by have := tabsI_len (newH c) i; have h0 : (newH c).tabs.length = 0 := rfl; omega
   go_wp2_with fail
   refine (nh_table HN.out hl9).mono ?_
   rintro e w3 ⟨rfl, n3⟩
   have HN3 := Lib.hid n3
   clear n3 y1 hBl
   go_wp2_with fail
   go_roundw
   case rel => exact ⟨i + 1, by go_num, by omega, HN3⟩
   case measure => simp [intOf]; omega
  ·obtain rfl : i = n := by omega
   have hd : decide ((i : Int) < (i : Int)) = false := decide_eq_false (by omega)
   have hd' : decide (i < i) = false := decide_eq_false (by omega)
   have HF : Hid (fillP 0 (ts.drop 0) (tabsI i (newH c)) = R) := Lib.hid (by
    rw [List.drop_zero, ← HRR.out]
    unfold worldP
    rw [HNN.out])
   have hl9 : (tabsI i (newH c)).tabs.length ≤ 1000000 := by have := tabsI_len (newH c) i; have h0 : (newH c).tabs.length = 0 := rfl; omega
   have HN1 : Hid (∃ H0, NH W1 wr g H0 [] ∧ H0.tabs.length ≤ 1000000 ∧ fillP 0 (ts.drop 0) H0 = R) := Lib.hid ⟨_, HN.out, hl9, HF.out⟩
   go_wp2_with fail
   clear y1 hBl hd hd' hl9 HF HN
   go_loopw [5] (fun s5 wr => ∃ (j : Nat) (Hc : Hp), s5 = .int .i64 (j : Int) ∧ j ≤ i ∧ Hid (NH W1 wr g Hc []) ∧ Hc.tabs.length ≤ 1000000 ∧ Hid (fillP j (ts.drop j) Hc = R)) (fun s5 _ => i - (intOf s5).toNat)
   case atStart =>
    obtain ⟨H0, h1, h2, h3⟩ := HN1.out
    exact ⟨0, H0, rfl, Nat.zero_le _, Lib.hid h1, h2, Lib.hid h3⟩
   case round =>
    obtain ⟨j, Hc, rfl, hj, HN, hcl, HF⟩ := hrel
    clear HN1
    have y1 := (HN.out.ext.cells.1 _ _ hB).trans AB.out.2
    have hBl : B0 < wr.heap.size := Nat.lt_of_lt_of_le hB HN.out.ext.le
    have hjI : (j : Int) ≤ 1000000 := by omega
    have hj0 : (0 : Int) ≤ (j : Int) := by omega
    by_cases hlt : j < i
    ·have hd : decide ((j : Int) < (i : Int)) = true := decide_eq_true (by omega)
     have hd' : decide (j < i) = true := decide_eq_true hlt
     have hltI : (j : Int) < (i : Int) := by omega
     obtain ⟨T, hT⟩ : ∃ T, ts[j]? = some T := ⟨_, List.getElem?_eq_getElem (by have := HNN.out; omega)⟩
     obtain ⟨b, o, qi, ci, hq, hb, hcell, hit⟩ := HT1.out j T hT
     subst hq
     have HIT := Lib.hid hit
     have HCE := Lib.hid hcell
     have HTM := Lib.hid (HWI.out.items T (List.mem_of_getElem? hT))
     have HF2 : Hid (fillP (j + 1) (ts.drop (j + 1)) (itemsP ⟨4, (j : Int), eN⟩ (T.drop 0) Hc) = R) := Lib.hid (by rw [List.drop_zero, ← HF.out, fill_step ts j Hc T hT])
     obtain ⟨m, hm⟩ : ∃ m, T.length = m := ⟨_, rfl⟩
     have hmx : (m : Int) ≤ 9223372036854775807 := by have := HTM.out.1; omega
     have HMM := Lib.hid hm
     rw [hm] at HCE
     have HN1 : Hid (∃ H0, NH W1 wr g H0 [] ∧ H0.tabs.length ≤ 1000000 ∧ fillP (j + 1) (ts.drop (j + 1)) (itemsP ⟨4, (j : Int), eN⟩ (T.drop 0) H0) = R) := Lib.hid ⟨_, HN.out, hcl, HF2.out⟩
     clear hT hcell hit hm HF2
     go_wp2_with fail
     clear y1 hBl hd hd' HN hcl HF
     go_loopw [6] (fun s6 wr => ∃ (k : Nat) (Hk : Hp), s6 = .int .i64 (k : Int) ∧ k ≤ m ∧ Hid (NH W1 wr g Hk []) ∧ Hk.tabs.length ≤ 1000000 ∧ Hid (fillP (j + 1) (ts.drop (j + 1)) (itemsP ⟨4, (j : Int), eN⟩ (T.drop k) Hk) = R)) (fun s6 _ => m - (intOf s6).toNat)
     case atStart =>
      obtain ⟨H0, h1, h2, h3⟩ := HN1.out
      exact ⟨0, H0, rfl, Nat.zero_le _, Lib.hid h1, h2, Lib.hid h3⟩
     case round =>
      obtain ⟨k, Hk, rfl, hk, HN, hkl, HF⟩ := hrel
      clear HN1
      have y1 := (HN.out.ext.cells.1 _ _ hB).trans AB.out.2
      have hBl : B0 < wr.heap.size := Nat.lt_of_lt_of_le hB HN.out.ext.le
      have y2 := (HN.out.ext.cells.1 _ _ hb).trans HCE.out
      have hbl : b < wr.heap.size := Nat.lt_of_lt_of_le hb HN.out.ext.le
      have hkI : (k : Int) ≤ 9223372036854775807 := by omega
      have hk0 : (0 : Int) ≤ (k : Int) := by omega
      by_cases hltk : k < m
      ·have hdk : decide ((k : Int) < (m : Int)) = true := decide_eq_true (by omega)
       have hdk' : decide (k < m) = true := decide_eq_true hltk
       have hltkI : (k : Int) < (m : Int) := by omega
       obtain ⟨x, hx⟩ : ∃ x, T[k]? = some x := ⟨_, List.getElem?_eq_getElem (by have := HMM.out; omega)⟩
       obtain ⟨b2, o2, hq2, ak, av⟩ := HIT.out k x hx
       subst hq2
       have hxn := HTM.out.2 x (List.mem_of_getElem? hx)
       have hb2 : b2 < W1.heap.size := ak.lt
       have hb2l : b2 < wr.heap.size := Nat.lt_of_lt_of_le hb2 HN.out.ext.le
       have HSP := HF.out
       rw [items_step _ _ _ _ _ hx] at HSP
       have HSP := Lib.hid HSP
       have hS := Lib.hid (fun (Z : World) (hZ : Ext wr Z) => nh_set (HN.out.ext' hZ) (by omega) ⟨4, (j : Int), eN⟩ x.1 x.2 hxn.1 hxn.2)
       obtain ⟨⟨xk, xn, xs⟩, ⟨vk, vn, vs⟩⟩ := x
       have AK := Lib.hid ak
       have AV := Lib.hid av
       have z0 := (HN.out.ext.cells.1 _ _ hb2).trans ak.k
       have z1 := (HN.out.ext.cells.1 _ _ hb2).trans ak.n
       have z2 := (HN.out.ext.cells.1 _ _ hb2).trans ak.s
       have v0 := (HN.out.ext.cells.1 _ _ hb2).trans av.k
       have v1 := (HN.out.ext.cells.1 _ _ hb2).trans av.n
       have v2 := (HN.out.ext.cells.1 _ _ hb2).trans av.s
       simp only at z0 z1 z2 v0 v1 v2 hS
       clear hx ak av hxn HF
       go_wp2_with fail
       go_region_held3 (fun w' => w'.cell? ⟨B0, 1, none⟩ = some (.slice (some ⟨b, o, none⟩) i cap) ∧ w'.cell? ⟨b, o + j, none⟩ = some (.slice (some ⟨b2, o2, none⟩) m ci) ∧ w'.cell? ⟨b2, o2 + k * 6, none⟩ = some (.int .i64 xk) ∧ w'.cell? ⟨b2, o2 + k * 6 + 1, none⟩ = some (.int .i64 xn) ∧ w'.cell? ⟨b2, o2 + k * 6 + 2, none⟩ = some (.string xs) ∧ w'.cell? ⟨b2, o2 + k * 6 + 3, none⟩ = some (.int .i64 vk) ∧ w'.cell? ⟨b2, o2 + k * 6 + 3 + 1, none⟩ = some (.int .i64 vn) ∧ w'.cell? ⟨b2, o2 + k * 6 + 3 + 2, none⟩ = some (.string vs)) (go_keep)
        (first
         | (go_at_call 26; refine (table_any _ _).mono ?_; rintro e w6 ⟨rfl, e6⟩; have E6 := Lib.hid (show Ext wr w6 from (Ext.refl wr).drew.trans e6); have p1 := (E6.out.cells.1 _ _ hBl).trans y1; have p2 := (E6.out.cells.1 _ _ hbl).trans y2; have r0 := (E6.out.cells.1 _ _ hb2l).trans z0; have r1 := (E6.out.cells.1 _ _ hb2l).trans z1; have r2 := (E6.out.cells.1 _ _ hb2l).trans z2; have t0 := (E6.out.cells.1 _ _ hb2l).trans v0; have t1 := (E6.out.cells.1 _ _ hb2l).trans v1; have t2 := (E6.out.cells.1 _ _ hb2l).trans v2; clear e6)
         | (go_at_call 19; refine (hS.out _ E6.out).mono ?_; rintro e w7 ⟨rfl, n7⟩; have U7 := Lib.hid n7; have pp1 := (n7.ext.cells.1 _ _ hB).trans AB.out.2; have pp2 := (n7.ext.cells.1 _ _ hb).trans HCE.out; have rr0 := (n7.ext.cells.1 _ _ hb2).trans AK.out.k; have rr1 := (n7.ext.cells.1 _ _ hb2).trans AK.out.n; have rr2 := (n7.ext.cells.1 _ _ hb2).trans AK.out.s; have tt0 := (n7.ext.cells.1 _ _ hb2).trans AV.out.k; have tt1 := (n7.ext.cells.1 _ _ hb2).trans AV.out.n; have tt2 := (n7.ext.cells.1 _ _ hb2).trans AV.out.s; simp only at rr0 rr1 rr2 tt0 tt1 tt2; clear n7))
       clear HN y1 y2 hBl hbl z0 z1 z2 v0 v1 v2 hb2l hS
       have hkl2 : (setH Hk ⟨4, (j : Int), eN⟩ ⟨xk, xn, xs⟩ ⟨vk, vn, vs⟩).tabs.length ≤ 1000000 := by rw [setH_len]; exact hkl
       all_goals go_wp2_with fail
       all_goals (
        go_roundw
        case rel => exact ⟨k + 1, _, by go_num, by omega, U7, hkl2, HSP⟩
        case measure => simp [intOf]; omega)
      ·obtain rfl : k = m := by omega
       have hdk : decide ((k : Int) < (k : Int)) = false := decide_eq_false (by omega)
       have hdk' : decide (k < k) = false := decide_eq_false (by omega)
       have HSP := HF.out
       rw [show T.drop k = [] from List.drop_eq_nil_of_le (by have := HMM.out; omega)] at HSP
       have HSP : Hid (fillP (j + 1) (ts.drop (j + 1)) Hk = R) := Lib.hid HSP
       clear HF
       go_wp2_with fail
       go_roundw
       case rel => exact ⟨j + 1, Hk, by go_num, by omega, HN, hkl, HSP⟩
       case measure => simp [intOf]; omega
    ·obtain rfl : j = i := by omega
     have hd : decide ((j : Int) < (j : Int)) = false := decide_eq_false (by omega)
     have hd' : decide (j < j) = false := decide_eq_false (by omega)
     have hfin : Hc = R := by
      have h9 := HF.out
      rw [show ts.drop j = [] from List.drop_eq_nil_of_le (by have := HNN.out; omega)] at h9
      exact h9
     have HFI := Lib.hid hfin
     clear hfin HF
     go_wp2_with fail
     go_ret
     exact ⟨g, rfl, by rw [← HFI.out]; exact NH.back HE0.out HN.out⟩
set_option maxRecDepth 100000 in
set_option maxHeartbeats 8000000 in
theorem heapOf_any (w : World) (c : Int) (q : Option Addr) (cap : Nat) (ts : List Tb) (hw : WIn c ts) (ht : TablesAt w q ts) :
  Calls Tryz.prog 49 #[.agg #[.int .i64 c, .slice q ts.length cap]] w fun e w' => ∃ g, e = .returned (.pointer (some ⟨g, 0, none⟩)) ∧ NR w w' g (worldP c ts) := by
 obtain ⟨R, hR⟩ : ∃ R, worldP c ts = R := ⟨_, rfl⟩
 rw [hR]
 have HRR := Lib.hid hR
 obtain ⟨n, hn⟩ : ∃ n, ts.length = n := ⟨_, rfl⟩
 have hn2 : n ≤ 1000000 := by rw [← hn]; exact hw.many
 have HWI := Lib.hid hw
 have HTS := Lib.hid ht
 have HNN := Lib.hid hn
 have hc := hw.c
 obtain ⟨hc1, hc2⟩ := hc
 rw [hn]
 clear hR hw ht hn
 go_enter Tryz.func49, Tryz.ntmps49
 go_wp2_with fail
 have HE0 := Lib.hid ((Ext.refl w).alloc (.cells #[.int .i64 c, .slice q n cap] 41))
 have HBX := Lib.hid (Blk.new w 41 #[.int .i64 c, .slice q n cap])
 have hsz : (w.alloc (.cells #[.int .i64 c, .slice q n cap] 41)).heap.size = w.heap.size + 1 := size_alloc _ _
 have HT1 := Lib.hid (HTS.out.ext HE0.out)
 refine (nr_new c (Ext.refl (w.alloc (.cells #[.int .i64 c, .slice q n cap] 41))) hc2 hc1).mono ?_
 generalize w.alloc (.cells #[.int .i64 c, .slice q n cap] 41) = W1 at *
 obtain ⟨B0, hB0⟩ : ∃ B0, w.heap.size = B0 := ⟨_, rfl⟩
 rw [hB0] at HBX hsz ⊢
 clear hB0
 rintro e w1 ⟨g, rfl, n1⟩
 have N : Hid (NR W1 w1 g (newH c)) := Lib.hid n1
 clear n1
 obtain ⟨a0, a1⟩ := (⟨HBX.out.cell 0, HBX.out.cell 1⟩ : W1.cell? ⟨B0, 0, none⟩ = some (.int .i64 c) ∧ W1.cell? ⟨B0, 1, none⟩ = some (.slice q n cap))
 have hB : B0 < W1.heap.size := HBX.out.lt
 have AB := Lib.hid (And.intro a0 a1)
 clear a0 a1
 have y1 := (N.out.ext.cells.1 _ _ hB).trans AB.out.2
 have hBl : B0 < w1.heap.size := Nat.lt_of_lt_of_le hB N.out.ext.le
 go_wp2_with fail
 clear y1 hBl
 go_loopw [4] (fun s4 wr => ∃ i : Nat, s4 = .int .i64 (i : Int) ∧ i ≤ n ∧ Hid (NR W1 wr g (tabsI i (newH c)))) (fun s4 _ => n - (intOf s4).toNat)
 case atStart => exact ⟨0, rfl, Nat.zero_le _, N⟩
 case round =>
  obtain ⟨i, rfl, hi, HN⟩ := hrel
  clear N
  have y1 := (HN.out.ext.cells.1 _ _ hB).trans AB.out.2
  have hBl : B0 < wr.heap.size := Nat.lt_of_lt_of_le hB HN.out.ext.le
  by_cases hlt : i < n
  ·have hd : decide ((i : Int) < (n : Int)) = true := decide_eq_true (by omega)
   have hd' : decide (i < n) = true := decide_eq_true hlt
   have hl9 : (tabsI i (newH c)).tabs.length ≤ 1000000000000 := by have := tabsI_len (newH c) i; have h0 : (newH c).tabs.length = 0 := rfl; omega
   go_wp2_with fail
   refine (nr_table HN.out hl9).mono ?_
   rintro e w3 ⟨rfl, n3⟩
   have HN3 := Lib.hid n3
   clear n3 y1 hBl
   go_wp2_with fail
   go_roundw
   case rel => exact ⟨i + 1, by go_num, by omega, HN3⟩
   case measure => simp [intOf]; omega
  ·obtain rfl : i = n := by omega
   have hd : decide ((i : Int) < (i : Int)) = false := decide_eq_false (by omega)
   have hd' : decide (i < i) = false := decide_eq_false (by omega)
   have HF : Hid (fillP 0 (ts.drop 0) (tabsI i (newH c)) = R) := Lib.hid (by
    rw [List.drop_zero, ← HRR.out]
    unfold worldP
    rw [HNN.out])
   have hl9 : (tabsI i (newH c)).tabs.length ≤ 1000000 := by have := tabsI_len (newH c) i; have h0 : (newH c).tabs.length = 0 := rfl; omega
   have HN1 : Hid (∃ H0, NR W1 wr g H0 ∧ H0.tabs.length ≤ 1000000 ∧ fillP 0 (ts.drop 0) H0 = R) := Lib.hid ⟨_, HN.out, hl9, HF.out⟩
   go_wp2_with fail
   clear y1 hBl hd hd' hl9 HF HN
   go_loopw [5] (fun s5 wr => ∃ (j : Nat) (Hc : Hp), s5 = .int .i64 (j : Int) ∧ j ≤ i ∧ Hid (NR W1 wr g Hc) ∧ Hc.tabs.length ≤ 1000000 ∧ Hid (fillP j (ts.drop j) Hc = R)) (fun s5 _ => i - (intOf s5).toNat)
   case atStart =>
    obtain ⟨H0, h1, h2, h3⟩ := HN1.out
    exact ⟨0, H0, rfl, Nat.zero_le _, Lib.hid h1, h2, Lib.hid h3⟩
   case round =>
    obtain ⟨j, Hc, rfl, hj, HN, hcl, HF⟩ := hrel
    clear HN1
    have y1 := (HN.out.ext.cells.1 _ _ hB).trans AB.out.2
    have hBl : B0 < wr.heap.size := Nat.lt_of_lt_of_le hB HN.out.ext.le
    have hjI : (j : Int) ≤ 1000000 := by omega
    have hj0 : (0 : Int) ≤ (j : Int) := by omega
    by_cases hlt : j < i
    ·have hd : decide ((j : Int) < (i : Int)) = true := decide_eq_true (by omega)
     have hd' : decide (j < i) = true := decide_eq_true hlt
     have hltI : (j : Int) < (i : Int) := by omega
     obtain ⟨T, hT⟩ : ∃ T, ts[j]? = some T := ⟨_, List.getElem?_eq_getElem (by have := HNN.out; omega)⟩
     obtain ⟨b, o, qi, ci, hq, hb, hcell, hit⟩ := HT1.out j T hT
     subst hq
     have HIT := Lib.hid hit
     have HCE := Lib.hid hcell
     have HTM := Lib.hid (HWI.out.items T (List.mem_of_getElem? hT))
     have HF2 : Hid (fillP (j + 1) (ts.drop (j + 1)) (itemsP ⟨4, (j : Int), eN⟩ (T.drop 0) Hc) = R) := Lib.hid (by rw [List.drop_zero, ← HF.out, fill_step ts j Hc T hT])
     obtain ⟨m, hm⟩ : ∃ m, T.length = m := ⟨_, rfl⟩
     have hmx : (m : Int) ≤ 9223372036854775807 := by have := HTM.out.1; omega
     have HMM := Lib.hid hm
     rw [hm] at HCE
     have HN1 : Hid (∃ H0, NR W1 wr g H0 ∧ H0.tabs.length ≤ 1000000 ∧ fillP (j + 1) (ts.drop (j + 1)) (itemsP ⟨4, (j : Int), eN⟩ (T.drop 0) H0) = R) := Lib.hid ⟨_, HN.out, hcl, HF2.out⟩
     clear hT hcell hit hm HF2
     go_wp2_with fail
     clear y1 hBl hd hd' HN hcl HF
     go_loopw [6] (fun s6 wr => ∃ (k : Nat) (Hk : Hp), s6 = .int .i64 (k : Int) ∧ k ≤ m ∧ Hid (NR W1 wr g Hk) ∧ Hk.tabs.length ≤ 1000000 ∧ Hid (fillP (j + 1) (ts.drop (j + 1)) (itemsP ⟨4, (j : Int), eN⟩ (T.drop k) Hk) = R)) (fun s6 _ => m - (intOf s6).toNat)
     case atStart =>
      obtain ⟨H0, h1, h2, h3⟩ := HN1.out
      exact ⟨0, H0, rfl, Nat.zero_le _, Lib.hid h1, h2, Lib.hid h3⟩
     case round =>
      obtain ⟨k, Hk, rfl, hk, HN, hkl, HF⟩ := hrel
      clear HN1
      have y1 := (HN.out.ext.cells.1 _ _ hB).trans AB.out.2
      have hBl : B0 < wr.heap.size := Nat.lt_of_lt_of_le hB HN.out.ext.le
      have y2 := (HN.out.ext.cells.1 _ _ hb).trans HCE.out
      have hbl : b < wr.heap.size := Nat.lt_of_lt_of_le hb HN.out.ext.le
      have hkI : (k : Int) ≤ 9223372036854775807 := by omega
      have hk0 : (0 : Int) ≤ (k : Int) := by omega
      by_cases hltk : k < m
      ·have hdk : decide ((k : Int) < (m : Int)) = true := decide_eq_true (by omega)
       have hdk' : decide (k < m) = true := decide_eq_true hltk
       have hltkI : (k : Int) < (m : Int) := by omega
       obtain ⟨x, hx⟩ : ∃ x, T[k]? = some x := ⟨_, List.getElem?_eq_getElem (by have := HMM.out; omega)⟩
       obtain ⟨b2, o2, hq2, ak, av⟩ := HIT.out k x hx
       subst hq2
       have hxn := HTM.out.2 x (List.mem_of_getElem? hx)
       have hb2 : b2 < W1.heap.size := ak.lt
       have hb2l : b2 < wr.heap.size := Nat.lt_of_lt_of_le hb2 HN.out.ext.le
       have HSP := HF.out
       rw [items_step _ _ _ _ _ hx] at HSP
       have HSP := Lib.hid HSP
       have hS := Lib.hid (fun (Z : World) (hZ : Ext wr Z) => nr_set (HN.out.ext' hZ) (by omega) ⟨4, (j : Int), eN⟩ x.1 x.2 hxn.1 hxn.2)
       obtain ⟨⟨xk, xn, xs⟩, ⟨vk, vn, vs⟩⟩ := x
       have AK := Lib.hid ak
       have AV := Lib.hid av
       have z0 := (HN.out.ext.cells.1 _ _ hb2).trans ak.k
       have z1 := (HN.out.ext.cells.1 _ _ hb2).trans ak.n
       have z2 := (HN.out.ext.cells.1 _ _ hb2).trans ak.s
       have v0 := (HN.out.ext.cells.1 _ _ hb2).trans av.k
       have v1 := (HN.out.ext.cells.1 _ _ hb2).trans av.n
       have v2 := (HN.out.ext.cells.1 _ _ hb2).trans av.s
       simp only at z0 z1 z2 v0 v1 v2 hS
       clear hx ak av hxn HF
       go_wp2_with fail
       go_region_held3 (fun w' => w'.cell? ⟨B0, 1, none⟩ = some (.slice (some ⟨b, o, none⟩) i cap) ∧ w'.cell? ⟨b, o + j, none⟩ = some (.slice (some ⟨b2, o2, none⟩) m ci) ∧ w'.cell? ⟨b2, o2 + k * 6, none⟩ = some (.int .i64 xk) ∧ w'.cell? ⟨b2, o2 + k * 6 + 1, none⟩ = some (.int .i64 xn) ∧ w'.cell? ⟨b2, o2 + k * 6 + 2, none⟩ = some (.string xs) ∧ w'.cell? ⟨b2, o2 + k * 6 + 3, none⟩ = some (.int .i64 vk) ∧ w'.cell? ⟨b2, o2 + k * 6 + 3 + 1, none⟩ = some (.int .i64 vn) ∧ w'.cell? ⟨b2, o2 + k * 6 + 3 + 2, none⟩ = some (.string vs)) (go_keep)
        (first
         | (go_at_call 26; refine (table_any _ _).mono ?_; rintro e w6 ⟨rfl, e6⟩; have E6 := Lib.hid (show Ext wr w6 from (Ext.refl wr).drew.trans e6); have p1 := (E6.out.cells.1 _ _ hBl).trans y1; have p2 := (E6.out.cells.1 _ _ hbl).trans y2; have r0 := (E6.out.cells.1 _ _ hb2l).trans z0; have r1 := (E6.out.cells.1 _ _ hb2l).trans z1; have r2 := (E6.out.cells.1 _ _ hb2l).trans z2; have t0 := (E6.out.cells.1 _ _ hb2l).trans v0; have t1 := (E6.out.cells.1 _ _ hb2l).trans v1; have t2 := (E6.out.cells.1 _ _ hb2l).trans v2; clear e6)
         | (go_at_call 84; refine (hS.out _ E6.out).mono ?_; rintro e w7 ⟨rfl, n7⟩; have U7 := Lib.hid n7; have pp1 := (n7.ext.cells.1 _ _ hB).trans AB.out.2; have pp2 := (n7.ext.cells.1 _ _ hb).trans HCE.out; have rr0 := (n7.ext.cells.1 _ _ hb2).trans AK.out.k; have rr1 := (n7.ext.cells.1 _ _ hb2).trans AK.out.n; have rr2 := (n7.ext.cells.1 _ _ hb2).trans AK.out.s; have tt0 := (n7.ext.cells.1 _ _ hb2).trans AV.out.k; have tt1 := (n7.ext.cells.1 _ _ hb2).trans AV.out.n; have tt2 := (n7.ext.cells.1 _ _ hb2).trans AV.out.s; simp only at rr0 rr1 rr2 tt0 tt1 tt2; clear n7))
       clear HN y1 y2 hBl hbl z0 z1 z2 v0 v1 v2 hb2l hS
       have hkl2 : (setH Hk ⟨4, (j : Int), eN⟩ ⟨xk, xn, xs⟩ ⟨vk, vn, vs⟩).tabs.length ≤ 1000000 := by rw [setH_len]; exact hkl
       all_goals go_wp2_with fail
       all_goals (
        go_roundw
        case rel => exact ⟨k + 1, _, by go_num, by omega, U7, hkl2, HSP⟩
        case measure => simp [intOf]; omega)
      ·obtain rfl : k = m := by omega
       have hdk : decide ((k : Int) < (k : Int)) = false := decide_eq_false (by omega)
       have hdk' : decide (k < k) = false := decide_eq_false (by omega)
       have HSP := HF.out
       rw [show T.drop k = [] from List.drop_eq_nil_of_le (by have := HMM.out; omega)] at HSP
       have HSP : Hid (fillP (j + 1) (ts.drop (j + 1)) Hk = R) := Lib.hid HSP
       clear HF
       go_wp2_with fail
       go_roundw
       case rel => exact ⟨j + 1, Hk, by go_num, by omega, HN, hkl, HSP⟩
       case measure => simp [intOf]; omega
    ·obtain rfl : j = i := by omega
     have hd : decide ((j : Int) < (j : Int)) = false := decide_eq_false (by omega)
     have hd' : decide (j < j) = false := decide_eq_false (by omega)
     have hfin : Hc = R := by
      have h9 := HF.out
      rw [show ts.drop j = [] from List.drop_eq_nil_of_le (by have := HNN.out; omega)] at h9
      exact h9
     have HFI := Lib.hid hfin
     clear hfin HF
     go_wp2_with fail
     go_ret
     exact ⟨g, rfl, by rw [← HFI.out]; exact NR.back HE0.out HN.out⟩
end Go.Proofs.YtfagldjhibdfhaaGreatDoor
namespace Go.Proofs.YtfagldjhibdfhaaGreatDoor
open Go.RowKit
set_option linter.unusedVariables false
set_option linter.unusedSimpArgs false

theorem rkeys_any (g : Nat) (tv : Value) (H : Hp) (t : Vl) (w : World) (h : RHeapIn w g tv H) (hlen : H.tabs.length ≤ 9223372036854775807) :
  Calls Tryz.prog 88 #[.pointer (some ⟨g, 0, none⟩), t.v] w fun e w' => ∃ v, e = .returned (.tuple #[v, .string (ofW H t)]) ∧ RowB w' w.heap.size v (keysV H t) ∧ Ext w w' := by
 unfold keysV
 by_cases hn : ofW H t = sNone
 ·rw [if_pos hn, hn]
  exact rkeys_tab g tv H t w h hlen hn
 ·rw [if_neg hn]
  refine (rkeys_why g tv H t w h hlen (fun e => hn (toList_nil e))).mono ?_
  rintro e w' ⟨rfl, he⟩
  exact ⟨_, rfl, World.ownsRow_nil _ _ _ _, he⟩
set_option maxRecDepth 100000 in
set_option maxHeartbeats 8000000 in
theorem sameT_any (w : World) (g gr : Nat) (tv tr : Value) (rs : List (Nat × Nat)) (H : Hp) (h1 : HeapIn w g tv rs H) (h2 : RHeapIn w gr tr H) (hlen : H.tabs.length ≤ 1000000000) (many : Nat) (hm : many ≤ 1000000) :
  Calls Tryz.prog 51 #[.pointer (some ⟨g, 0, none⟩), .pointer (some ⟨gr, 0, none⟩), .int .i64 (many : Int)] w fun e w' => e = .returned (.bool true) ∧ Ext w w' := by
 have HP := Lib.hid h1
 have HQ := Lib.hid h2
 have hKO : ∀ t, ∀ k ∈ keysV H t, in64 k.n ∧ ∃ T, TbOk T ∧ keysV H t = keysL T := fun t k hk => by
  unfold keysV at hk ⊢
  by_cases hn : ofW H t = sNone
  ·rw [if_pos hn] at hk
   have hT := tabOf_ok h1.ok (ofW_none hn).2.2.2.2
   exact ⟨(keysL_ok hT k hk).num, _, hT, if_pos hn⟩
  ·rw [if_neg hn] at hk
   exact (List.not_mem_nil hk).elim
 have HKO := Lib.hid hKO
 have HKL : Hid (∀ t, (keysV H t).length ≤ 65536) := Lib.hid (fun t => by
  unfold keysV
  by_cases hn : ofW H t = sNone
  ·rw [if_pos hn]
   have hT := tabOf_ok h1.ok (ofW_none hn).2.2.2.2
   rw [keysL_len hT]
   exact hT.most
  ·rw [if_neg hn]; exact Nat.zero_le _)
 clear h1 h2 hKO
 go_enter Tryz.func51, Tryz.ntmps51
 go_wp2_with fail
 go_loopw [7] (fun s7 wr => ∃ i : Nat, s7 = .int .i64 (i : Int) ∧ i ≤ many + 1 ∧ Hid (Ext w wr)) (fun s7 _ => many + 1 - (intOf s7).toNat)
 case atStart => exact ⟨0, rfl, Nat.zero_le _, Lib.hid (Ext.refl _)⟩
 case round =>
  obtain ⟨i, rfl, hi, HE⟩ := hrel
  by_cases hlt : i ≤ many
  ·have hd : decide ((i : Int) ≤ (many : Int)) = true := decide_eq_true (by omega)
   have hd' : decide (i ≤ many) = true := decide_eq_true hlt
   have hiI : (i : Int) ≤ 1000000 := by omega
   go_wp2_with fail
   refine (table_any _ _).mono ?_
   rintro e w1 ⟨rfl, e1⟩
   have E1 := Lib.hid (HE.out.trans e1)
   clear e1
   go_wp2_with fail
   refine (show Calls Tryz.prog 28 #[.pointer (some ⟨g, 0, none⟩), (⟨4, (i : Int), eN⟩ : Vl).v] w1 _ from keys_any g tv rs H ⟨4, (i : Int), eN⟩ w1 (HP.out.ext E1.out) (by omega)).mono ?_
   rintro e w2 ⟨vk, rfl, rowk, e2⟩
   have E2 := Lib.hid (E1.out.trans e2)
   obtain ⟨ks, hks⟩ : ∃ ks, keysV H ⟨4, (i : Int), eN⟩ = ks := ⟨_, rfl⟩
   obtain ⟨oo, hoo⟩ : ∃ oo, ofW H ⟨4, (i : Int), eN⟩ = oo := ⟨_, rfl⟩
   rw [hks] at rowk
   rw [hoo]
   have HKS := Lib.hid hks
   have HOO := Lib.hid hoo
   have RK := Lib.hid rowk.at0
   obtain ⟨qk, ck, hvk⟩ := rowk.at0.slice
   subst hvk
   have hkl : ks.length ≤ 65536 := by rw [← hks]; exact HKL.out _
   clear e2 rowk hks hoo
   go_wp2_with fail
   refine (table_any _ _).mono ?_
   rintro e w3 ⟨rfl, e3⟩
   have E3 := Lib.hid (E2.out.trans e3)
   have RK3 := Lib.hid (RK.out.ext e3)
   clear e3
   go_wp2_with fail
   refine (show Calls Tryz.prog 88 #[.pointer (some ⟨gr, 0, none⟩), (⟨4, (i : Int), eN⟩ : Vl).v] w3 _ from rkeys_any gr tr H ⟨4, (i : Int), eN⟩ w3 (HQ.out.ext E3.out) (by omega)).mono ?_
   rintro e w4 ⟨vl, rfl, rowl, e4⟩
   have E4 := Lib.hid (E3.out.trans e4)
   have RK4 := Lib.hid (RK3.out.ext e4)
   rw [HKS.out] at rowl
   rw [HOO.out]
   have RL4 := Lib.hid rowl.at0
   obtain ⟨ql, cl, hvl⟩ := rowl.at0.slice
   subst hvl
   clear e4 rowl RK RK3 E1 E2 E3
   have hoo1 : (oo.toList == oo.toList) = true := by simp
   have hlen1 : ((ks.length : Int) == (ks.length : Int)) = true := by simp
   go_wp2_with fail
   go_loopw [12] (fun s12 wr => ∃ j : Nat, s12 = .int .i64 (j : Int) ∧ j ≤ ks.length ∧ Hid (Ext w4 wr)) (fun s12 _ => ks.length - (intOf s12).toNat)
   case atStart => exact ⟨0, rfl, Nat.zero_le _, Lib.hid (Ext.refl _)⟩
   case round =>
    obtain ⟨j, rfl, hj, HX⟩ := hrel
    have hjI : (j : Int) ≤ 65536 := by omega
    have hj0 : (0 : Int) ≤ (j : Int) := by omega
    by_cases hltj : j < ks.length
    ·have hdj : decide ((j : Int) < (ks.length : Int)) = true := decide_eq_true (by omega)
     have hdj' : decide (j < ks.length) = true := decide_eq_true hltj
     have hltI : (j : Int) < (ks.length : Int) := by omega
     obtain ⟨x, hx⟩ : ∃ x, ks[j]? = some x := ⟨_, List.getElem?_eq_getElem hltj⟩
     have hxn := (HKO.out ⟨4, (i : Int), eN⟩ x (by rw [HKS.out]; exact List.mem_of_getElem? hx)).1
     obtain ⟨kb, kc, ekv, hkb, d0, d1, d2⟩ := (RK4.out.ext HX.out).cells j x hx
     obtain ⟨lb, lc, elv, hlb, f0, f1, f2⟩ := (RL4.out.ext HX.out).cells j x hx
     obtain ⟨rfl, rfl⟩ : qk = some ⟨kb, 0, none⟩ ∧ ck = kc := by injection ekv with h1 _ h3; exact ⟨h1, h3⟩
     obtain ⟨rfl, rfl⟩ : ql = some ⟨lb, 0, none⟩ ∧ cl = lc := by injection elv with h1 _ h3; exact ⟨h1, h3⟩
     obtain ⟨gv, hgv⟩ : ∃ gv, getV H ⟨4, (i : Int), eN⟩ x = gv := ⟨_, rfl⟩
     obtain ⟨gw, hgw⟩ : ∃ gw, getW H ⟨4, (i : Int), eN⟩ x = gw := ⟨_, rfl⟩
     have EX := Lib.hid (E4.out.trans HX.out)
     have hG := Lib.hid (fun (Z : World) (hZ : Ext wr Z) => get_any g tv rs H ⟨4, (i : Int), eN⟩ x Z (HP.out.ext (EX.out.trans hZ)) (by omega) hxn)
     have hR := Lib.hid (fun (Z : World) (hZ : Ext wr Z) => rget_any gr tr H ⟨4, (i : Int), eN⟩ x Z (HQ.out.ext (EX.out.trans hZ)) (by omega))
     rw [hgv, hgw] at hG hR
     obtain ⟨k0, n0, s0⟩ := x
     obtain ⟨gk, gn, gs⟩ := gv
     simp only at d0 d1 d2 f0 f1 f2
     clear ekv elv hx hxn hgv hgw
     go_wp2_with fail
     go_upto_region 11 with (fail)
     go_cut [13] (fun s13 wx => ∃ bv : Nat, s13 = .pointer (some ⟨bv, 0, none⟩) ∧ wr.heap.size ≤ bv ∧ Hid (Blk wx bv 26 #[.int .i64 gk, .int .i64 gn, .string gs] ∧ Ext wr wx))
     case first =>
      have hlowW : wr.heap.size ≤ wr.heap.size := by omega
      have hnb : ¬ wr.heap.size = kb := by omega
      have hnb2 : ¬ kb = wr.heap.size := by omega
      have hbS : kb < wr.heap.size := by omega
      go_region_held3 (fun w' => w'.cell? ⟨kb, j * 3, none⟩ = some (.int .i64 k0) ∧ w'.cell? ⟨kb, j * 3 + 1, none⟩ = some (.int .i64 n0) ∧ w'.cell? ⟨kb, j * 3 + 2, none⟩ = some (.string s0)) (go_keep)
       (first
        | (go_at_call 26; refine (table_any _ _).mono ?_; rintro e w3 ⟨rfl, e3⟩; have E3 := Lib.hid (show Ext wr w3 from Ext.trans (by repeat (first | exact Ext.refl _ | refine Ext.drew ?_ | refine Ext.alloc ?_ _)) e3); have x0 := (E3.out.cells.1 _ _ hbS).trans d0; have x1 := (E3.out.cells.1 _ _ hbS).trans d1; have x2 := (E3.out.cells.1 _ _ hbS).trans d2; have L3 : kb < w3.heap.size := Nat.lt_of_lt_of_le hbS E3.out.le; have nn3 : ¬ w3.heap.size = kb := Nat.ne_of_gt L3; have nm3 : ¬ kb = w3.heap.size := Nat.ne_of_lt L3; (try (have hq : Ext (World.alloc wr.drew (.cells #[.int .i64 0, .int .i64 0, .string ⟨#[]⟩] 26)) w3 := (by with_reducible exact e3); have ZA := Lib.hid (ZV.new wr.heap.size rfl hq); clear hq)); (try (have hq : Ext (World.drew (World.alloc wr (.cells #[.int .i64 0, .int .i64 0, .string ⟨#[]⟩] 26))) w3 := (by with_reducible exact e3); have ZA := Lib.hid (ZV.newd wr.heap.size rfl hq); clear hq)); clear e3)
        | (go_at_call 39; refine (hG.out _ (by repeat (first | exact E3.out | refine Ext.alloc ?_ _))).mono ?_; rintro e w5 ⟨rfl, e5⟩; have E5 := Lib.hid (show Ext wr w5 from Ext.trans (by repeat (first | exact E3.out | refine Ext.alloc ?_ _)) e5); have v0 := (E5.out.cells.1 _ _ hbS).trans d0; have v1 := (E5.out.cells.1 _ _ hbS).trans d1; have v2 := (E5.out.cells.1 _ _ hbS).trans d2; have L5 : kb < w5.heap.size := Nat.lt_of_lt_of_le hbS E5.out.le; have nn5 : ¬ w5.heap.size = kb := Nat.ne_of_gt L5; have nm5 : ¬ kb = w5.heap.size := Nat.ne_of_lt L5; (try (have hz : Hid (ZV w3 wr.heap.size) := (by with_reducible assumption); have ZZ := Lib.hid (hz.out.ext e5); obtain ⟨zl, zv0, zv1, zv2, zf0, zf1, zf2⟩ := ZZ.out.facts; clear hz)); (try (have hq : Ext (World.alloc w3 (.cells #[.int .i64 0, .int .i64 0, .string ⟨#[]⟩] 26)) w5 := (by with_reducible exact e5); have ZZ := Lib.hid (ZV.new w3.heap.size rfl hq); obtain ⟨zl, zv0, zv1, zv2, zf0, zf1, zf2⟩ := ZZ.out.facts; clear hq)); clear e5))
      all_goals go_wp2_with fail
      all_goals (
       go_meet
       first
        | exact ⟨_, rfl, hlowW, Lib.hid ⟨put3 ZZ.out _ _ _, ((E5.out.setCell (Nat.le_refl _) _).setCell (Nat.le_refl _) _).setCell (Nat.le_refl _) _⟩⟩
        | exact ⟨_, rfl, Nat.le_trans hlowW E3.out.le, Lib.hid ⟨put3 ZZ.out _ _ _, ((E5.out.setCell E3.out.le _).setCell E3.out.le _).setCell E3.out.le _⟩⟩
        | exact ⟨_, rfl, Nat.le_trans hlowW E5.out.le, Lib.hid ⟨Blk.new _ _ _, E5.out.alloc _⟩⟩)
     case rest =>
     obtain ⟨bx, rfl, hbx, HXX⟩ := hcut
     obtain ⟨wy, rfl⟩ : ∃ wy : World, wy = wc := ⟨_, rfl⟩
     have EY := Lib.hid HXX.out.2
     have BY := Lib.hid HXX.out.1
     have hR2 := Lib.hid (fun (Z : World) (hZ : Ext wy Z) => hR.out Z (EY.out.trans hZ))
     replace d0 := (EY.out.cells.1 _ _ hkb).trans d0
     replace d1 := (EY.out.cells.1 _ _ hkb).trans d1
     replace d2 := (EY.out.cells.1 _ _ hkb).trans d2
     have hkb2 : kb < wy.heap.size := Nat.lt_of_lt_of_le hkb EY.out.le
     have hlb2 : lb < wy.heap.size := Nat.lt_of_lt_of_le hlb EY.out.le
     replace f0 := (EY.out.cells.1 _ _ hlb).trans f0
     replace f1 := (EY.out.cells.1 _ _ hlb).trans f1
     replace f2 := (EY.out.cells.1 _ _ hlb).trans f2
     clear HXX hkb hlb hR hG
     go_wp2_with fail
     go_upto_region 12 with (fail)
     go_cut [15] (fun s15 wx => ∃ bv : Nat, s15 = .pointer (some ⟨bv, 0, none⟩) ∧ wy.heap.size ≤ bv ∧ Hid (Blk wx bv 26 #[.int .i64 gk, .int .i64 gn, .string gs] ∧ Ext wy wx))
     case first =>
      have hlowW : wy.heap.size ≤ wy.heap.size := by omega
      have hnb : ¬ wy.heap.size = kb := by omega
      have hnb2 : ¬ kb = wy.heap.size := by omega
      have hbS : kb < wy.heap.size := by omega
      go_region_held3 (fun w' => w'.cell? ⟨kb, j * 3, none⟩ = some (.int .i64 k0) ∧ w'.cell? ⟨kb, j * 3 + 1, none⟩ = some (.int .i64 n0) ∧ w'.cell? ⟨kb, j * 3 + 2, none⟩ = some (.string s0)) (go_keep)
       (first
        | (go_at_call 26; refine (table_any _ _).mono ?_; rintro e w3 ⟨rfl, e3⟩; have E3 := Lib.hid (show Ext wy w3 from Ext.trans (by repeat (first | exact Ext.refl _ | refine Ext.drew ?_ | refine Ext.alloc ?_ _)) e3); have x0 := (E3.out.cells.1 _ _ hbS).trans d0; have x1 := (E3.out.cells.1 _ _ hbS).trans d1; have x2 := (E3.out.cells.1 _ _ hbS).trans d2; have L3 : kb < w3.heap.size := Nat.lt_of_lt_of_le hbS E3.out.le; have nn3 : ¬ w3.heap.size = kb := Nat.ne_of_gt L3; have nm3 : ¬ kb = w3.heap.size := Nat.ne_of_lt L3; (try (have hq : Ext (World.alloc wy.drew (.cells #[.int .i64 0, .int .i64 0, .string ⟨#[]⟩] 26)) w3 := (by with_reducible exact e3); have ZA := Lib.hid (ZV.new wy.heap.size rfl hq); clear hq)); (try (have hq : Ext (World.drew (World.alloc wy (.cells #[.int .i64 0, .int .i64 0, .string ⟨#[]⟩] 26))) w3 := (by with_reducible exact e3); have ZA := Lib.hid (ZV.newd wy.heap.size rfl hq); clear hq)); clear e3)
        | (go_at_call 89; refine (hR2.out _ (by repeat (first | exact E3.out | refine Ext.alloc ?_ _))).mono ?_; rintro e w5 ⟨rfl, e5⟩; have E5 := Lib.hid (show Ext wy w5 from Ext.trans (by repeat (first | exact E3.out | refine Ext.alloc ?_ _)) e5); have v0 := (E5.out.cells.1 _ _ hbS).trans d0; have v1 := (E5.out.cells.1 _ _ hbS).trans d1; have v2 := (E5.out.cells.1 _ _ hbS).trans d2; have L5 : kb < w5.heap.size := Nat.lt_of_lt_of_le hbS E5.out.le; have nn5 : ¬ w5.heap.size = kb := Nat.ne_of_gt L5; have nm5 : ¬ kb = w5.heap.size := Nat.ne_of_lt L5; (try (have hz : Hid (ZV w3 wy.heap.size) := (by with_reducible assumption); have ZZ := Lib.hid (hz.out.ext e5); obtain ⟨zl, zv0, zv1, zv2, zf0, zf1, zf2⟩ := ZZ.out.facts; clear hz)); (try (have hq : Ext (World.alloc w3 (.cells #[.int .i64 0, .int .i64 0, .string ⟨#[]⟩] 26)) w5 := (by with_reducible exact e5); have ZZ := Lib.hid (ZV.new w3.heap.size rfl hq); obtain ⟨zl, zv0, zv1, zv2, zf0, zf1, zf2⟩ := ZZ.out.facts; clear hq)); clear e5))
      all_goals go_wp2_with fail
      all_goals (
       go_meet
       first
        | exact ⟨_, rfl, hlowW, Lib.hid ⟨put3 ZZ.out _ _ _, ((E5.out.setCell (Nat.le_refl _) _).setCell (Nat.le_refl _) _).setCell (Nat.le_refl _) _⟩⟩
        | exact ⟨_, rfl, Nat.le_trans hlowW E3.out.le, Lib.hid ⟨put3 ZZ.out _ _ _, ((E5.out.setCell E3.out.le _).setCell E3.out.le _).setCell E3.out.le _⟩⟩
        | exact ⟨_, rfl, Nat.le_trans hlowW E5.out.le, Lib.hid ⟨Blk.new _ _ _, E5.out.alloc _⟩⟩)
     case rest =>
     obtain ⟨by_, rfl, hby, HYY⟩ := hcut
     obtain ⟨wz, rfl⟩ : ∃ wz : World, wz = wc := ⟨_, rfl⟩
     have EZ := Lib.hid HYY.out.2
     obtain ⟨b0, b1, b2, _⟩ := three HYY.out.1
     obtain ⟨a0, a1, a2, _⟩ := three (BY.out.ext EZ.out)
     have hbl : bx < wz.heap.size := (BY.out.ext EZ.out).lt
     have hbl2 : by_ < wz.heap.size := HYY.out.1.lt
     replace d0 := (EZ.out.cells.1 _ _ hkb2).trans d0
     replace d1 := (EZ.out.cells.1 _ _ hkb2).trans d1
     replace d2 := (EZ.out.cells.1 _ _ hkb2).trans d2
     replace f0 := (EZ.out.cells.1 _ _ hlb2).trans f0
     replace f1 := (EZ.out.cells.1 _ _ hlb2).trans f1
     replace f2 := (EZ.out.cells.1 _ _ hlb2).trans f2
     have hkb3 : kb < wz.heap.size := Nat.lt_of_lt_of_le hkb2 EZ.out.le
     have hlb3 : lb < wz.heap.size := Nat.lt_of_lt_of_le hlb2 EZ.out.le
     have EF := Lib.hid (HX.out.trans (EY.out.trans EZ.out))
     have hgu := fun a b x y W => vl_guard .neq (.inr rfl) a b x y W
     have hv1 : ∀ W, (binOp .neq 26 (vv k0 n0 s0) (vv k0 n0 s0)).run Tryz.prog W = .ok (.bool false) W := fun W => by have := vl_neq ⟨k0, n0, s0⟩ ⟨k0, n0, s0⟩ W; simpa using this
     have hv2 : ∀ W, (binOp .neq 26 (vv gk gn gs) (vv gk gn gs)).run Tryz.prog W = .ok (.bool false) W := fun W => by have := vl_neq ⟨gk, gn, gs⟩ ⟨gk, gn, gs⟩ W; simpa using this
     clear HYY hR2 EY EZ BY hkb2 hlb2
     go_wp2_with fail
     go_region_held3 (fun w' => w'.cell? ⟨kb, j * 3, none⟩ = some (.int .i64 k0) ∧ w'.cell? ⟨kb, j * 3 + 1, none⟩ = some (.int .i64 n0) ∧ w'.cell? ⟨kb, j * 3 + 2, none⟩ = some (.string s0) ∧ w'.cell? ⟨lb, j * 3, none⟩ = some (.int .i64 k0) ∧ w'.cell? ⟨lb, j * 3 + 1, none⟩ = some (.int .i64 n0) ∧ w'.cell? ⟨lb, j * 3 + 2, none⟩ = some (.string s0) ∧ w'.cell? ⟨bx, 0, none⟩ = some (.int .i64 gk) ∧ w'.cell? ⟨bx, 1, none⟩ = some (.int .i64 gn) ∧ w'.cell? ⟨bx, 2, none⟩ = some (.string gs) ∧ w'.cell? ⟨by_, 0, none⟩ = some (.int .i64 gk) ∧ w'.cell? ⟨by_, 1, none⟩ = some (.int .i64 gn) ∧ w'.cell? ⟨by_, 2, none⟩ = some (.string gs)) (go_keep) (fail)
     all_goals go_wp2_with fail
     all_goals (
      go_roundw
      case rel => exact ⟨j + 1, by go_num, by omega, Lib.hid EF.out.drew⟩
      case measure => simp [intOf]; omega)
    ·obtain rfl : j = ks.length := by omega
     have hdj : decide ((ks.length : Int) < (ks.length : Int)) = false := decide_eq_false (by omega)
     have hdj' : decide (ks.length < ks.length) = false := decide_eq_false (by omega)
     go_wp2_with fail
     go_roundw
     case rel => exact ⟨i + 1, by go_num, by omega, Lib.hid (E4.out.trans HX.out)⟩
     case measure => simp [intOf]; omega
  ·obtain rfl : i = many + 1 := by omega
   have hd : decide (((many + 1 : Nat) : Int) ≤ (many : Int)) = false := decide_eq_false (by omega)
   have hd' : decide ((many : Int) + 1 ≤ (many : Int)) = false := decide_eq_false (by omega)
   have hp0 := (HP.out.ext HE.out).head
   have hq0 := (HQ.out.ext HE.out).head
   have q2 := hq0.cell 2
   have hql := hq0.lt
   simp only [List.getElem?_toArray, List.getElem?_cons_zero, List.getElem?_cons_succ] at q2
   have hSp := Lib.hid (fun (Z : World) (hZ : Ext wr Z) => spent_any g tv H.cells H.spent Z (hp0.ext hZ))
   obtain ⟨sp, hsp⟩ : ∃ sp, H.spent = sp := ⟨_, rfl⟩
   rw [hsp] at q2 hSp
   have hsp1 : (sp == sp) = true := by simp
   clear hp0 hq0
   go_wp2_with fail
   go_region_held3 (fun w' => w'.cell? ⟨gr, 2, none⟩ = some (.int .i64 sp)) (go_keep)
    (first
     | (go_at_call 90; refine (hSp.out _ (Ext.refl _).drew).mono ?_; rintro e w8 ⟨rfl, e8⟩; have q3 := (e8.cells.1 gr 2 hql).trans q2; have E8 := Lib.hid ((Ext.refl wr).drew.trans e8); clear e8))
   all_goals go_wp2_with fail
   all_goals (
    go_ret
    exact ⟨rfl, HE.out.trans E8.out⟩)
end Go.Proofs.YtfagldjhibdfhaaGreatDoor
namespace Go.Proofs.YtfagldjhibdfhaaGreatDoor
open Go.RowKit
set_option linter.unusedVariables false
set_option linter.unusedSimpArgs false

theorem flat_at : ∀ (l : List Vl) (j : Nat) (u : Value), (flat l)[j]? = some u → ∃ i x, l[i]? = some x ∧ ((j = i * 3 ∧ u = .int .i64 x.k) ∨ (j = i * 3 + 1 ∧ u = .int .i64 x.n) ∨ (j = i * 3 + 2 ∧ u = .string x.s))
 | [], j, u, h => by simp [flat] at h
 | y :: l, 0, u, h => ⟨0, y, rfl, .inl ⟨rfl, by simpa [flat] using h.symm⟩⟩
 | y :: l, 1, u, h => ⟨0, y, rfl, .inr (.inl ⟨rfl, by simpa [flat] using h.symm⟩)⟩
 | y :: l, 2, u, h => ⟨0, y, rfl, .inr (.inr ⟨rfl, by simpa [flat] using h.symm⟩)⟩
 | y :: l, j + 3, u, h => by
  obtain ⟨i, x, hx, hj⟩ := flat_at l j u (by simpa [flat] using h)
  refine ⟨i + 1, x, by simpa using hx, ?_⟩
  rcases hj with ⟨h1, h2⟩ | ⟨h1, h2⟩ | ⟨h1, h2⟩
  ·exact .inl ⟨by omega, h2⟩
  ·exact .inr (.inl ⟨by omega, h2⟩)
  ·exact .inr (.inr ⟨by omega, h2⟩)
theorem flat_append (l m : List Vl) : flat (l ++ m) = flat l ++ flat m := by simp [flat]
theorem app_vals (W : World) (ty : TypeId) (B : Nat) (v : Value) (vs l : List Vl) (q : Option Addr) (c : Nat) (h : RowB W B v vs) (hl : ValsAt W q l) (hq : q = none → c = 0 ∧ l = []) (hn : vs.length + l.length ≤ 1000000000) (hB : B ≤ W.heap.size) :
  ∃ v' w', AppRuns Tryz.prog 35 ty v (.slice q l.length c) W v' w' ∧ RowB w' B v' (vs ++ l) ∧ W.grownBy w' v.ownBlock ∧ (v'.ownBlock = v.ownBlock ∨ v'.ownBlock = some W.heap.size) := by
 obtain ⟨i0, hi, hz0, hz1, hz2⟩ := info_parts infoVal
 have mx : maxLen = 9223372036854775807 ∨ maxLen = 140737488355328 ∨ 1000000000 ≤ maxLen := by right; right; decide
 have mx2 : 1000000000 ≤ maxLen := by decide
 cases q with
 | none =>
  obtain ⟨rfl, rfl⟩ := hq rfl
  refine ⟨v, W, ⟨Go.run_append_owned_none (P := Tryz.prog) (w := W) B 35 ty 26 i0 3 Tryz.underlying35 hi v vs.length (flat vs) h⟩, by rw [List.append_nil]; exact h, World.grownBy.refl W _, .inl rfl⟩
 | some a =>
  have hpl : l ≠ [] → a = ⟨a.block, a.off, none⟩ := fun hne => by
   cases l with
   | nil => exact absurd rfl hne
   | cons x r =>
    obtain ⟨b, o, e, _⟩ := hl 0 x rfl
    cases e
    rfl
  obtain ⟨v', w', h1, h2, h3, _, h4⟩ := run_append_own_at (P := Tryz.prog) (w := W) B 35 ty 26 i0 Vl.zero.v 3 32 Tryz.underlying35 hi hz0 hz1 hz2 rfl (by omega) v vs.length (flat vs) h a l.length c
   (flat l) (flat_len l) (fun j u hu => by
    obtain ⟨i, x, hx, hj⟩ := flat_at l j u hu
    obtain ⟨b, o, e, ax⟩ := hl i x hx
    cases e
    rw [add_at]
    rcases hj with ⟨rfl, rfl⟩ | ⟨rfl, rfl⟩ | ⟨rfl, rfl⟩
    ·exact ax.k
    ·rw [← Nat.add_assoc]; exact ax.n
    ·rw [← Nat.add_assoc]; exact ax.s) (fun u hu => by
    obtain ⟨j, hj⟩ := List.getElem?_of_mem hu
    obtain ⟨i, x, hx, hj⟩ := flat_at l j u hj
    rcases hj with ⟨_, rfl⟩ | ⟨_, rfl⟩ | ⟨_, rfl⟩ <;> rfl) (by omega) (by omega) hB
  refine ⟨v', w', ⟨h1⟩, ?_, h3, h4⟩
  show w'.ownsRow B 26 3 v' (vs ++ l).length (flat (vs ++ l))
  rw [flat_append, List.length_append]
  exact h2
theorem upP_len (t : Vl) (a : Int) : ∀ (k : Nat) (H : Hp), (upP t a k H).1.tabs.length = H.tabs.length
 | 0, H => rfl
 | k + 1, H => by
  unfold upP
  split
  ·rw [upP_len t a k, setH_len]
  ·rfl
theorem dnP_len (t : Vl) (n : Int) : ∀ (k : Nat) (H : Hp), (dnP t n k H).1.tabs.length = H.tabs.length
 | 0, H => rfl
 | k + 1, H => by
  unfold dnP
  split
  ·rw [dnP_len t n k, setH_len]
  ·rfl
theorem putP_len (t : Vl) : ∀ (l : List Vl) (i : Int) (H : Hp), (putP t l i H).1.tabs.length = H.tabs.length
 | [], i, H => rfl
 | v :: r, i, H => by
  unfold putP
  split
  ·rw [putP_len t r, setH_len]
  ·rfl
theorem insertR_len (H : Hp) (t : Vl) (a : Int) (v : Vl) : (insertR H t a v).H.tabs.length = H.tabs.length := by
 unfold insertR
 split
 ·rfl
 ·split
  ·rfl
  ·simp only
   split
   ·show (setH _ _ _ _).tabs.length = _
    rw [setH_len, upP_len]
   ·show (upP _ _ _ _).1.tabs.length = _
    rw [upP_len]
theorem removeR_len (H : Hp) (t : Vl) (a : Option Int) : (removeR H t a).H.tabs.length = H.tabs.length := by
 unfold removeR
 simp only
 split
 ·rfl
 ·split
  ·rfl
  ·split
   ·split
    ·show (setH _ _ _ _).tabs.length = _
     rw [setH_len, dnP_len]
    ·show (setH _ _ _ _).tabs.length = _
     rw [setH_len, dnP_len]
   ·show (dnP _ _ _ _).1.tabs.length = _
    rw [dnP_len]
theorem keyTR_len (H : Hp) (t : Vl) : (keyTR H t).H.tabs.length ≤ H.tabs.length + 1 := by
 have h1 := tabH_len H
 unfold keyTR
 split
 ·split
  ·simp only
   split
   ·show (putP _ _ _ _).1.tabs.length ≤ _
    rw [putP_len]; exact h1
   ·show (putP _ _ _ _).1.tabs.length ≤ _
    rw [putP_len]; exact h1
  ·exact Nat.le_succ _
 ·exact Nat.le_succ _
theorem doR_len (H : Hp) (f : Nat) (l : List Vl) : (doR H f l).H.tabs.length ≤ H.tabs.length + 1 := by
 have hc : f = 0 ∨ f = 1 ∨ f = 2 ∨ f = 3 ∨ f = 4 ∨ f = 5 ∨ f = 6 ∨ f = 7 ∨ f = 8 ∨ f = 9 ∨ f = 10 ∨ f = 11 ∨ 12 ≤ f := by omega
 rcases hc with rfl | rfl | rfl | rfl | rfl | rfl | rfl | rfl | rfl | rfl | rfl | rfl | hf
 ·exact Nat.le_succ _
 ·show (charR H l).H.tabs.length ≤ _
  unfold charR
  split <;> exact Nat.le_succ _
 ·show (concatR H _ _).H.tabs.length ≤ _
  unfold concatR
  split <;> exact Nat.le_succ _
 ·exact Nat.le_succ _
 ·show (if l.length = 2 then _ else _ : Rs).H.tabs.length ≤ _
  split
  ·rw [insertR_len]; exact Nat.le_succ _
  ·rw [insertR_len]; exact Nat.le_succ _
 ·exact keyTR_len H _
 ·show (lenR H _).H.tabs.length ≤ _
  unfold lenR
  split <;> exact Nat.le_succ _
 ·show (removeR H _ _).H.tabs.length ≤ _
  rw [removeR_len]; exact Nat.le_succ _
 ·show (repR H _ _).H.tabs.length ≤ _
  unfold repR
  split <;> exact Nat.le_succ _
 ·exact Nat.le_succ _
 ·exact Nat.le_succ _
 ·exact Nat.le_succ _
 ·obtain ⟨k, rfl⟩ : ∃ k, f = k + 12 := ⟨f - 12, by omega⟩
  exact Nat.le_succ _
theorem callH_len (H : Hp) (name : ByteArray) (l : List Vl) : (callH H name l).tabs.length ≤ H.tabs.length + 1 := by
 unfold callH callR
 cases libIdx name with
 | none => exact Nat.le_succ _
 | some f =>
  simp only [Option.map_some]
  split
  ·exact doR_len H f l
  ·exact Nat.le_succ _
structure AK (w0 w : World) (g gr : Nat) (H R : Hp) (L : List (Nat × Obj)) : Prop where
 ex : ∃ tv rs tr, HeapIn w g tv rs H ∧ RHeapIn w gr tr R ∧ (∀ x, Foot g tv rs x → w0.heap.size ≤ x) ∧ (∀ x, RFoot gr tr x → w0.heap.size ≤ x) ∧ ∀ p ∈ L, ¬ Foot g tv rs p.1 ∧ ¬ RFoot gr tr p.1
 ext : Ext w0 w
 row : ∀ p ∈ L, w.heap[p.1]? = some p.2
section
variable {w0 w w' : World} {g gr k : Nat} {H R : Hp} {L : List (Nat × Obj)}
theorem AK.ext' (h : AK w0 w g gr H R L) (he : Ext w w') : AK w0 w' g gr H R L := by
 obtain ⟨tv, rs, tr, h1, h2, h3⟩ := h.ex
 exact ⟨⟨tv, rs, tr, h1.ext he, h2.ext he, h3⟩, h.ext.trans he, fun p hp => (he.block _ (lt_of_block (h.row p hp))).trans (h.row p hp)⟩
theorem AK.new (h : AK w0 w g gr H R L) (o : Obj) : AK w0 (w.alloc o) g gr H R ((w.heap.size, o) :: L) := by
 obtain ⟨tv, rs, tr, h1, h2, f1, f2, n⟩ := h.ex
 have hE := (Ext.refl w).alloc o
 refine ⟨⟨tv, rs, tr, h1.ext hE, h2.ext hE, f1, f2, fun p hp => ?_⟩, h.ext.trans hE, fun p hp => ?_⟩
 ·rcases List.mem_cons.1 hp with rfl | hp
  ·exact ⟨fun hf => Nat.lt_irrefl _ (h1.low hf), fun hf => Nat.lt_irrefl _ (h2.low hf)⟩
  ·exact n p hp
 ·rcases List.mem_cons.1 hp with rfl | hp
  ·exact heap_alloc_new _ _
  ·exact (hE.block _ (lt_of_block (h.row p hp))).trans (h.row p hp)
theorem AK.of {w1 w2 w3 : World} {o : Obj} (h : NH w0 w1 g H []) (hr : NR w1 w2 gr R) (he : Ext w2 w3) (hk : w3.heap[k]? = some o) (hn : w2.heap.size ≤ k) : AK w0 w3 g gr H R [(k, o)] := by
 obtain ⟨tv, rs, h1, h2, _⟩ := h.ex
 obtain ⟨tr, r1, r2⟩ := hr.ex
 refine ⟨⟨tv, rs, tr, (h1.ext hr.ext).ext he, r1.ext he, h2, fun x hx => Nat.le_trans h.ext.le (r2 x hx), fun p hp => ?_⟩, (h.ext.trans hr.ext).trans he, fun p hp => ?_⟩
 ·rcases List.mem_cons.1 hp with rfl | hp
  ·refine ⟨fun hf => ?_, fun hf => ?_⟩
   ·have h8 := h1.low hf
    have h9 := hr.ext.le
    simp only at h8
    omega
   ·have h8 := r1.low hf
    simp only at h8
    omega
  ·exact (List.not_mem_nil hp).elim
 ·rcases List.mem_cons.1 hp with rfl | hp
  ·exact hk
  ·exact (List.not_mem_nil hp).elim
theorem AK.did_a {tv tv' : Value} {rs rs' : List (Nat × Nat)} {tr : Value} {H' : Hp} (h : AK w0 w g gr H R L) (h1 : HeapIn w g tv rs H) (h2 : RHeapIn w gr tr R) (f1 : ∀ x, Foot g tv rs x → w0.heap.size ≤ x) (f2 : ∀ x, RFoot gr tr x → w0.heap.size ≤ x) (n : ∀ p ∈ L, ¬ Foot g tv rs p.1 ∧ ¬ RFoot gr tr p.1)
  (hs : HS w g tv rs w' tv' rs' H') : AK w0 w' g gr H' R L := by
 refine ⟨⟨tv', rs', tr, hs.heap, h2.other h1 hs.touch, fun x hx => ?_, f2, fun p hp => ⟨hs.notin (lt_of_block (h.row p hp)) (n p hp).1, (n p hp).2⟩⟩, hs.touch.to_ext h.ext f1, fun p hp => (hs.touch.block _ (lt_of_block (h.row p hp)) (n p hp).1).trans (h.row p hp)⟩
 rcases hs.foot x hx with hx | hx
 ·exact f1 x hx
 ·exact Nat.le_trans h.ext.le hx
theorem AK.did_b {tv : Value} {rs : List (Nat × Nat)} {tr tr' : Value} {R' : Hp} (h : AK w0 w g gr H R L) (h1 : HeapIn w g tv rs H) (h2 : RHeapIn w gr tr R) (f1 : ∀ x, Foot g tv rs x → w0.heap.size ≤ x) (f2 : ∀ x, RFoot gr tr x → w0.heap.size ≤ x) (n : ∀ p ∈ L, ¬ Foot g tv rs p.1 ∧ ¬ RFoot gr tr p.1)
  (hs : RS w gr tr w' tr' R') : AK w0 w' g gr H R' L := by
 refine ⟨⟨tv, rs, tr', h1.other h2 hs.touch, hs.heap, f1, fun x hx => ?_, fun p hp => ⟨(n p hp).1, hs.notin (lt_of_block (h.row p hp)) (n p hp).2⟩⟩, hs.touch.to_ext h.ext f2, fun p hp => (hs.touch.block _ (lt_of_block (h.row p hp)) (n p hp).2).trans (h.row p hp)⟩
 rcases hs.foot x hx with hx | hx
 ·exact f2 x hx
 ·exact Nat.le_trans h.ext.le hx
theorem ak_call {l : List Vl} {cap : Nat} {o : Obj} (h : AK w0 w g gr H R L) (hko : (k, o) ∈ L) (hL : LLaid w0) (hlen : H.tabs.length ≤ 1000000000) (name : ByteArray) (ha : ArgsAt w (some ⟨k, 0, none⟩) l) (hn : ∀ x ∈ l, in64 x.n) :
  Calls Tryz.prog 15 #[.pointer (some ⟨g, 0, none⟩), .string name, .slice (some ⟨k, 0, none⟩) l.length cap] w fun e w' =>
   e = .returned (.tuple #[(callV H name l).v, .string (callW H name l), .bool (callB name)]) ∧ AK w0 w' g gr (callH H name l) R L := by
 obtain ⟨tv, rs, tr, h1, h2, f1, f2, n⟩ := h.ex
 cases hi : libIdx name with
 | none =>
  refine (call_none w _ name _ l.length cap hi).mono ?_
  rintro e w' ⟨rfl, he⟩
  have hr : callR H name l = none := by unfold callR; rw [hi]; rfl
  have e1 : callV H name l = Vl.zero := by unfold callV; rw [hr]
  have e2 : callW H name l = sNone := by unfold callW; rw [hr]
  have e3 : callB name = false := by unfold callB; rw [hi]; rfl
  have e4 : callH H name l = H := by unfold callH; rw [hr]
  rw [e1, e2, e3, e4]
  exact ⟨rfl, h.ext' he⟩
 | some f =>
  refine (call_some g tv rs H w h1 (hL.ext h.ext) hlen name f hi (some ⟨k, 0, none⟩) l cap ha (fun hw => ask_sound hw hn) (fun a ha => by rw [← Option.some.inj ha]; exact (n _ hko).1)).mono ?_
  rintro e w' ⟨rfl, tv', rs', hs⟩
  exact ⟨rfl, h.did_a h1 h2 f1 f2 n hs⟩
theorem ak_rcall {l : List Vl} {q : Option Addr} {cap : Nat} (h : AK w0 w g gr H R L) (hL : LLaid w0) (hlen : R.tabs.length ≤ 1000000000) (name : ByteArray) (ha : ArgsAt w q l) (hn : ∀ x ∈ l, in64 x.n) (hq : ∀ a, q = some a → l ≠ [] → a.block < w0.heap.size) :
  Calls Tryz.prog 50 #[.pointer (some ⟨gr, 0, none⟩), .string name, .slice q l.length cap] w fun e w' =>
   e = .returned (.tuple #[(callV R name l).v, .string (callW R name l), .bool (callB name)]) ∧ AK w0 w' g gr H (callH R name l) L := by
 obtain ⟨tv, rs, tr, h1, h2, f1, f2, n⟩ := h.ex
 refine (rCall_any w gr tr R h2 (hL.ext h.ext) hlen name q l cap ha hn (fun a ha hne hf => ?_)).mono ?_
 ·have := f2 _ hf
  have := hq a ha hne
  omega
 ·rintro e w' ⟨rfl, tr', hs⟩
  exact ⟨rfl, h.did_b h1 h2 f1 f2 n hs⟩
theorem ak_same (h : AK w0 w g gr H H L) (hlen : H.tabs.length ≤ 1000000000) (many : Nat) (hm : many ≤ 1000000) :
  Calls Tryz.prog 51 #[.pointer (some ⟨g, 0, none⟩), .pointer (some ⟨gr, 0, none⟩), .int .i64 (many : Int)] w fun e w' => e = .returned (.bool true) ∧ Ext w w' := by
 obtain ⟨tv, rs, tr, h1, h2, _⟩ := h.ex
 exact sameT_any w g gr tv tr rs H h1 h2 hlen many hm
end
end Go.Proofs.YtfagldjhibdfhaaGreatDoor
namespace Go.Proofs.YtfagldjhibdfhaaGreatDoor
open Go.RowKit
set_option linter.unusedVariables false
set_option linter.unusedSimpArgs false

theorem RowB.form {w : World} {B : Nat} {v : Value} {l : List Vl} (h : RowB w B v l) (hl : l ≠ []) : ∃ k cap o, v = .slice (some ⟨k, 0, none⟩) l.length cap ∧ B ≤ k ∧ l.length ≤ cap ∧ cap ≤ maxLen ∧ w.heap[k]? = some o := by
 obtain ⟨_, hrow⟩ := h
 rcases hrow with ⟨_, h0⟩ | ⟨g, cap, cur, e1, hb, hc, h2, h3, _⟩
 ·exact absurd (List.eq_nil_of_length_eq_zero h0) hl
 ·exact ⟨g, cap, _, e1, hb, h2, h3, hc⟩
theorem RowB.vals {w : World} {B k cap n : Nat} {l : List Vl} (h : RowB w B (.slice (some ⟨k, 0, none⟩) n cap) l) : ValsAt w (some ⟨k, 0, none⟩) l := fun i x hx => by
 obtain ⟨b, c, e, _, c0, c1, c2⟩ := h.at0.cells i x hx
 obtain rfl : k = b := by injection e with e _ _; injection e with e; injection e
 refine ⟨k, 0, rfl, ?_, ?_, ?_⟩
 ·simpa using c0
 ·simpa using c1
 ·simpa using c2
set_option maxRecDepth 100000 in
set_option maxHeartbeats 8000000 in
theorem asks_any (w : World) (hL : LLaid w) (c : Int) (q : Option Addr) (cap : Nat) (ts : List Tb) (hw : WIn c ts) (ht : TablesAt w q ts) (name : ByteArray) (qa : Option Addr) (l : List Vl) (ca : Nat) (ha : ValsAt w qa l) (hln : l.length ≤ 1000) (hn : ∀ x ∈ l, in64 x.n)
  (hqa : qa = none → ca = 0 ∧ l = []) :
  Calls Tryz.prog 34 #[.agg #[.int .i64 c, .slice q ts.length cap], .string name, .slice qa l.length ca] w fun e w' => e = .returned (.bool true) ∧ Ext w w' := by
 obtain ⟨H0, hH0⟩ : ∃ H0, worldP c ts = H0 := ⟨_, rfl⟩
 have hl0 : H0.tabs.length ≤ 1000000 := by rw [← hH0]; exact Nat.le_trans (worldP_len c ts) hw.many
 have HC1 := Lib.hid (fun (W : World) (hE : Ext w W) => heap_any W c q cap ts hw (ht.ext hE))
 have HC2 := Lib.hid (fun (W : World) (hE : Ext w W) => heapOf_any W c q cap ts hw (ht.ext hE))
 rw [hH0] at HC1 HC2
 obtain ⟨xv, hxv⟩ : ∃ xv, callV H0 name l = xv := ⟨_, rfl⟩
 obtain ⟨ww, hww⟩ : ∃ ww, callW H0 name l = ww := ⟨_, rfl⟩
 obtain ⟨bb, hbb⟩ : ∃ bb, callB name = bb := ⟨_, rfl⟩
 obtain ⟨H1, hH1⟩ : ∃ H1, callH H0 name l = H1 := ⟨_, rfl⟩
 have hl1 : H1.tabs.length ≤ 1000000000 := by rw [← hH1]; have := callH_len H0 name l; omega
 have HX := Lib.hid (And.intro hxv (And.intro hww (And.intro hbb hH1)))
 obtain ⟨xk, xn, xs⟩ := xv
 obtain ⟨n, hn0⟩ : ∃ n, ts.length = n := ⟨_, rfl⟩
 have hnm : n ≤ 1000000 := by rw [← hn0]; exact hw.many
 rw [hn0] at HC1 HC2 ⊢
 obtain ⟨m, hm⟩ : ∃ m, l.length = m := ⟨_, rfl⟩
 have HM := Lib.hid hm
 have hm1 : (m : Int) ≤ 1000 := by omega
 have hm0 : (0 : Int) ≤ (m : Int) := by omega
 have HL := Lib.hid hL
 have HA := Lib.hid ha
 have HN := Lib.hid hn
 have HQA := Lib.hid hqa
 have hnm1 : (n : Int) ≤ 1000000 := by omega
 rw [hm]
 clear hL ha hn hqa ht hw hxv hww hbb hH1 hH0 hn0 hm
 go_enter Tryz.func34, Tryz.ntmps34
 go_wp2_with fail
 have HBX := Lib.hid (Blk.new w 41 #[.int .i64 c, .slice q n cap])
 have HW := Lib.hid ((Ext.refl w).alloc (.cells #[.int .i64 c, .slice q n cap] 41))
 generalize w.alloc (.cells #[.int .i64 c, .slice q n cap] 41) = w0 at HBX HW ⊢
 obtain ⟨B0, hB0⟩ : ∃ B0, w.heap.size = B0 := ⟨_, rfl⟩
 rw [hB0] at HBX ⊢
 clear hB0
 obtain ⟨a0, a1⟩ := (⟨HBX.out.cell 0, HBX.out.cell 1⟩ : w0.cell? ⟨B0, 0, none⟩ = some (.int .i64 c) ∧ w0.cell? ⟨B0, 1, none⟩ = some (.slice q n cap))
 have hB : B0 < w0.heap.size := HBX.out.lt
 go_upto_region 1 with (fail)
 go_cut [7, 8] (fun s7 s8 wx => ∃ g gr w1, s7 = .pointer (some ⟨g, 0, none⟩) ∧ s8 = .pointer (some ⟨gr, 0, none⟩) ∧ Hid (NH w0 w1 g H0 [] ∧ NR w1 wx gr H0))
 case first =>
  go_region_held3 (fun w' => w'.cell? ⟨B0, 0, none⟩ = some (.int .i64 c) ∧ w'.cell? ⟨B0, 1, none⟩ = some (.slice q n cap)) (go_keep)
   (first
    | (go_at_call 25; refine (HC1.out _ HW.out.drew).mono ?_; rintro e w3 ⟨g, rfl, n3⟩; have N3 := Lib.hid (show NH w0 w3 g H0 [] from NH.back (Ext.refl w0).drew n3); have b0 := (N3.out.ext.cells.1 _ _ hB).trans a0; have b1 := (N3.out.ext.cells.1 _ _ hB).trans a1; clear n3)
    | (go_at_call 49; refine (HC2.out _ (HW.out.trans N3.out.ext)).mono ?_; rintro e w4 ⟨gr, rfl, n4⟩; have N4 := Lib.hid n4; have c0 := (n4.ext.cells.1 _ _ (Nat.lt_of_lt_of_le hB N3.out.ext.le)).trans b0; have c1 := (n4.ext.cells.1 _ _ (Nat.lt_of_lt_of_le hB N3.out.ext.le)).trans b1; clear n4))
  all_goals go_wp2_with fail
  all_goals (
   go_meet
   exact ⟨_, _, _, rfl, rfl, Lib.hid ⟨N3.out, N4.out⟩⟩)
 case rest =>
 obtain ⟨g, gr, w1, rfl, rfl, HNN⟩ := hcut
 obtain ⟨w2, rfl⟩ : ∃ w2 : World, w2 = wc := ⟨_, rfl⟩
 clear HC1 HC2 a0 a1
 have E2 := Lib.hid (HNN.out.1.ext.trans HNN.out.2.ext)
 have hr0 : RowB (w2.alloc (.cells #[] 26)) w2.heap.size (.slice (some ⟨w2.heap.size, 0, none⟩) 0 0) [] := ⟨rfl, .inr ⟨w2.heap.size, 0, #[], rfl, Nat.le_refl _, heap_alloc_new _ _, Nat.zero_le _, Nat.zero_le _, rfl, rfl⟩⟩
 obtain ⟨v1, w3, run1, row1, gr1, ob1⟩ := app_vals (w2.alloc (.cells #[] 26)) 35 w2.heap.size _ [] l qa ca hr0 (HA.out.ext (HW.out.trans (E2.out.alloc _))) HQA.out (by simp; omega) (by rw [size_alloc]; omega)
 rw [List.nil_append] at row1
 have hE3 : Ext w2 w3 := ((Ext.refl w2).alloc _).grown gr1 (fun x hx => by simp [Value.ownBlock] at hx; omega)
 have hr1 : RowB (w3.alloc (.cells #[.int .i64 77, .int .i64 0, .string ⟨#[]⟩] 26)) w2.heap.size v1 l := own_ext row1 ((Ext.refl w3).alloc _)
 have hv77 : ValsAt (w3.alloc (.cells #[.int .i64 77, .int .i64 0, .string ⟨#[]⟩] 26)) (some ⟨w3.heap.size, 0, none⟩) [⟨77, 0, eN⟩] := fun i x hx => by
  have hb := Blk.new w3 26 #[.int .i64 77, .int .i64 0, .string ⟨#[]⟩]
  match i, hx with
  | 0, hx =>
   obtain rfl := Option.some.inj hx
   exact ⟨_, _, rfl, hb.cell 0, hb.cell 1, hb.cell 2⟩
 obtain ⟨v2, w4, run2, row2, gr2, ob2⟩ := app_vals (w3.alloc (.cells #[.int .i64 77, .int .i64 0, .string ⟨#[]⟩] 26)) 35 w2.heap.size v1 l [⟨77, 0, eN⟩] (some ⟨w3.heap.size, 0, none⟩) 1 hr1 hv77 (fun h => by cases h) (by simp; omega) (by have := hE3.le; rw [size_alloc]; omega)
 have hE4 : Ext w2 w4 := (hE3.alloc _).grown gr2 (fun x hx => (row1.lt x hx).1)
 obtain ⟨k, cap2, ob, hv2, hk, hcap, hcapm, hko⟩ := row2.form (by simp)
 subst hv2
 have hlen77 : (l ++ [(⟨77, 0, eN⟩ : Vl)]).length = m + 1 := by rw [List.length_append, HM.out]; rfl
 rw [hlen77] at hcap run2
 rw [HM.out] at run1
 have hcapI : (m : Int) + 1 ≤ (cap2 : Int) := by have : m + 1 ≤ cap2 := hcap; omega
 have hcap2 : (m : Int) ≤ (cap2 : Int) := by omega
 have hcap3 : (cap2 : Int) ≤ 9223372036854775807 := by have h9 : maxLen ≤ 9223372036854775807 := (by decide); omega
 have HAK : Hid (AK w0 w4 g gr H0 H0 [(k, ob)]) := Lib.hid (AK.of HNN.out.1 HNN.out.2 hE4 hko hk)
 have HVS := Lib.hid row2.vals
 have HKO := Lib.hid hko
 have HR1 := Lib.hid run1
 have HR2 := Lib.hid run2
 have HCP := Lib.hid hcapI
 clear hr0 run1 row1 gr1 ob1 hE3 hr1 hv77 run2 row2 gr2 ob2 hE4 hk hcap hcapm hko HNN E2
 go_wp2_with (at_builtin; first | refine wpList_append_runs rfl _ _ 35 rfl _ _ _ _ rfl rfl HR1.out ?_ | refine wpList_append_runs rfl _ _ 35 rfl _ _ _ _ rfl rfl HR2.out ?_)
 have HA4 : ArgsAt w4 (some ⟨k, 0, none⟩) l := ⟨by omega, fun i x hx => HVS.out i x (by rw [List.getElem?_append_left (List.getElem?_eq_some_iff.1 hx).1]; exact hx)⟩
 have cA := ak_call (cap := cap2) HAK.out (List.mem_cons_self ..) (HL.out.ext HW.out) (by omega) name HA4 HN.out
 rw [HM.out, HX.out.1, HX.out.2.1, HX.out.2.2.1, HX.out.2.2.2] at cA
 refine cA.mono ?_
 clear cA HA4
 rintro e w5 ⟨rfl, a5⟩
 have A6 := Lib.hid (a5.new (.cells #[.int .i64 xk, .int .i64 xn, .string xs] 26))
 clear a5 HAK
 go_wp2_with fail
 have HAQ : ArgsAt (w5.alloc (.cells #[.int .i64 xk, .int .i64 xn, .string xs] 26)) qa l := (HA.out.ext (HW.out.trans A6.out.ext)).args (by omega)
 have cB := ak_rcall (cap := ca) A6.out (HL.out.ext HW.out) (by omega) name HAQ HN.out (fun a ha hne => by
  cases hl : l with
  | nil => exact absurd hl hne
  | cons x r =>
   obtain ⟨b, o, e, ax⟩ := HA.out 0 x (by rw [hl]; rfl)
   rw [e] at ha
   rw [← Option.some.inj ha]
   exact Nat.lt_of_lt_of_le ax.lt HW.out.le)
 rw [HM.out, HX.out.1, HX.out.2.1, HX.out.2.2.1, HX.out.2.2.2] at cB
 refine cB.mono ?_
 clear cB HAQ
 rintro e w7 ⟨rfl, a7⟩
 obtain ⟨kx, hkx⟩ : ∃ kx, w5.heap.size = kx := ⟨_, rfl⟩
 rw [hkx] at a7 ⊢
 have A8 := Lib.hid (a7.new (.cells #[.int .i64 xk, .int .i64 xn, .string xs] 26))
 have HV8 : Hid (ValsAt (w7.alloc (.cells #[.int .i64 xk, .int .i64 xn, .string xs] 26)) (some ⟨k, 0, none⟩) (l ++ [⟨77, 0, eN⟩])) := Lib.hid (fun i x hx => by
  obtain ⟨b, o, e, ax⟩ := HVS.out i x hx
  obtain rfl : k = b := by injection e with e; injection e
  have e2 := A8.out.row (k, ob) (by simp)
  have e1 : w4.heap[k]? = some ob := HKO.out
  exact ⟨k, o, e, ax.of (e2.trans e1.symm)⟩)
 clear a7 A6 hkx HVS
 go_wp2_with fail
 generalize w7.alloc (.cells #[.int .i64 xk, .int .i64 xn, .string xs] 26) = wD at A8 HV8 ⊢
 obtain ⟨ky, hky⟩ : ∃ ky, w7.heap.size = ky := ⟨_, rfl⟩
 rw [hky] at A8 ⊢
 clear hky
 go_loopw [16] (fun s16 wr => ∃ i : Nat, s16 = .int .i64 (i : Int) ∧ i ≤ m ∧ Hid (Ext wD wr)) (fun s16 _ => m - (intOf s16).toNat)
 case atStart => exact ⟨0, rfl, Nat.zero_le _, Lib.hid (Ext.refl _)⟩
 case round =>
  obtain ⟨i, rfl, hi, HE⟩ := hrel
  by_cases hlt : i < m
  ·have hd : decide ((i : Int) < (m : Int)) = true := decide_eq_true (by omega)
   have hd' : decide (i < m) = true := decide_eq_true hlt
   have hltI : (i : Int) < (m : Int) := by omega
   have hi0 : (0 : Int) ≤ (i : Int) := by omega
   obtain ⟨x, hx⟩ : ∃ x, l[i]? = some x := ⟨_, List.getElem?_eq_getElem (by have := HM.out; omega)⟩
   obtain ⟨b, o, rfl, ax⟩ := (HA.out.ext (HW.out.trans (A8.out.ext.trans HE.out))) i x hx
   obtain ⟨b2, o2, e2, ay⟩ := (HV8.out.ext HE.out) i x (by rw [List.getElem?_append_left (List.getElem?_eq_some_iff.1 hx).1]; exact hx)
   obtain ⟨rfl, rfl⟩ : k = b2 ∧ 0 = o2 := by injection e2 with e2; injection e2 with e2 e3; exact ⟨e2, e3⟩
   have x0 := ax.k
   have x1 := ax.n
   have x2 := ax.s
   have y0 := ay.k
   have y1 := ay.n
   have y2 := ay.s
   have hbl := ax.lt
   have hkl := ay.lt
   obtain ⟨vk, vn, vs⟩ := x
   simp only [Nat.zero_add] at x0 x1 x2 y0 y1 y2
   have hgu := fun a b x y W => vl_guard .neq (.inr rfl) a b x y W
   have hv1 : ∀ W, (binOp .neq 26 (vv vk vn vs) (vv vk vn vs)).run Tryz.prog W = .ok (.bool false) W := fun W => by have := vl_neq ⟨vk, vn, vs⟩ ⟨vk, vn, vs⟩ W; simpa using this
   clear ax ay e2 hx
   go_wp2_with fail
   go_region_held3 (fun w' => w'.cell? ⟨k, i * 3, none⟩ = some (.int .i64 vk) ∧ w'.cell? ⟨k, i * 3 + 1, none⟩ = some (.int .i64 vn) ∧ w'.cell? ⟨k, i * 3 + 2, none⟩ = some (.string vs) ∧ w'.cell? ⟨b, o + i * 3, none⟩ = some (.int .i64 vk) ∧ w'.cell? ⟨b, o + i * 3 + 1, none⟩ = some (.int .i64 vn) ∧ w'.cell? ⟨b, o + i * 3 + 2, none⟩ = some (.string vs)) (go_keep) (fail)
   all_goals go_wp2_with fail
   all_goals (
    go_roundw
    case rel => exact ⟨i + 1, by go_num, by omega, Lib.hid HE.out.drew⟩
    case measure => simp [intOf]; omega)
  ·obtain rfl : i = m := by omega
   have hd : decide ((i : Int) < (i : Int)) = false := decide_eq_false (by omega)
   have hd' : decide (i < i) = false := decide_eq_false (by omega)
   have A9 := Lib.hid (A8.out.ext' HE.out)
   have HE2 := HE
   clear HE A8
   obtain ⟨b77, o77, e77, a77⟩ := (HV8.out.ext (HE2.out)) i ⟨77, 0, eN⟩ (by rw [List.getElem?_append_right (by have := HM.out; omega), HM.out, Nat.sub_self]; rfl)
   obtain ⟨rfl, rfl⟩ : k = b77 ∧ 0 = o77 := by injection e77 with e77; injection e77 with e2 e3; exact ⟨e2, e3⟩
   have z0 := a77.k
   have hkl := a77.lt
   simp only [Nat.zero_add] at z0
   have hx10 : Blk wr kx 26 #[.int .i64 xk, .int .i64 xn, .string xs] := A9.out.row (kx, .cells #[.int .i64 xk, .int .i64 xn, .string xs] 26) (by simp)
   have hx13 : Blk wr ky 26 #[.int .i64 xk, .int .i64 xn, .string xs] := A9.out.row (ky, .cells #[.int .i64 xk, .int .i64 xn, .string xs] 26) (by simp)
   obtain ⟨p0, p1, p2, _⟩ := three hx10
   obtain ⟨r0, r1, r2, _⟩ := three hx13
   have hkx := hx10.lt
   have hky := hx13.lt
   have y1 := (A9.out.ext.cells.1 _ _ hB).trans (HBX.out.cell 1)
   have hBl : B0 < wr.heap.size := Nat.lt_of_lt_of_le hB A9.out.ext.le
   simp only [List.getElem?_toArray, List.getElem?_cons_zero, List.getElem?_cons_succ] at y1
   have hgu := fun a b x y W => vl_guard .eql (.inl rfl) a b x y W
   have hv1 : ∀ W, (binOp .eql 26 (vv xk xn xs) (vv xk xn xs)).run Tryz.prog W = .ok (.bool true) W := fun W => by have := vl_eql ⟨xk, xn, xs⟩ ⟨xk, xn, xs⟩ W; simpa using this
   have hww : (ww.toList == ww.toList) = true := by simp
   have hbb : (bb == bb) = true := by simp
   have hwr : IntKind.i64.wrap ((i : Int) + 1) = (i : Int) + 1 := IntWalk.i64_in _ (by omega)
   have hib : (i : Int) + 1 ≤ 9223372036854775807 := by omega
   have hi1 : (i : Int) < (i : Int) + 1 := by omega
   clear a77 e77 hx10 hx13
   go_wp2_with fail
   refine (ak_same A9.out hl1 n hnm).mono ?_
   rintro e w9 ⟨rfl, e9⟩
   have q0 := (e9.cells.1 _ _ hkl).trans z0
   have hkl9 : k < w9.heap.size := Nat.lt_of_lt_of_le hkl e9.le
   have E9 := Lib.hid (HW.out.trans (A9.out.ext.trans e9))
   clear z0 p0 p1 p2 r0 r1 r2 y1 hBl hkx hky e9
   go_wp2_with fail
   go_ret
   exact ⟨rfl, E9.out⟩
end Go.Proofs.YtfagldjhibdfhaaGreatDoor
