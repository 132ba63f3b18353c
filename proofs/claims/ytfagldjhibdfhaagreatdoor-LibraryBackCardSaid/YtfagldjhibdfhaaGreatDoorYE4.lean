/- Arguments of chapter 15 opened: values, rows of values, of numbers, worlds. The heaps of a world: the law's heap, heapOf. sameTables: two heaps that stand for one are told the same. Arguments copied; both heaps at once. asks: what a function tells, in both, is the same. -/
import Derived.Test.YtfagldjhibdfhaaGreatDoorYB6
import Derived.Test.YtfagldjhibdfhaaGreatDoorYA8
import Derived.Test.YtfagldjhibdfhaaGreatDoorYE2
namespace Go.Proofs.YtfagldjhibdfhaaGreatDoor
open Go.ChangeShapes Go.WideShapes Go.ChangeAt Go.RowKit Go.Joins Go.Deep
set_option linter.unusedVariables false
set_option linter.unusedSimpArgs false

theorem wf_in64 {n : Int} (h : (Lit.int .i64 n).wf = true) : in64 n := by
 simp [Lit.wf, IntKind.min, IntKind.max, IntKind.signed, IntKind.bits] at h
 unfold in64
 omega
theorem cell_plain {w : World} {a : Addr} {v : Value} (h : w.cell? a = some v) : a.spot = none := by
 unfold World.cell? at h
 split at h
 ·split at h
  ·cases h
  ·rename_i hs; simpa using hs
 ·cases h
theorem plain_eq {a : Addr} (h : a.spot = none) : a = ⟨a.block, a.off, none⟩ := by cases a; simp at h; subst h; rfl
theorem add_at (b o k : Nat) : (⟨b, o, none⟩ : Addr).add k = ⟨b, o + k, none⟩ := by
 unfold Addr.add
 split
 ·rename_i h; subst h; rfl
 ·rfl
theorem head_plain {w : World} {base : Nat} {a : Addr} {n : Nat} {cs : List Value} (h : w.cells? base (a.add (0 * n)) n = some cs) (hn : 0 < n) : a = ⟨a.block, a.off, none⟩ := by
 obtain ⟨_, hl, hc⟩ := World.cells?_some h
 have h0 := hc 0 hn
 rw [List.getElem?_eq_getElem (by omega)] at h0
 have := cell_plain h0
 simp [Addr.add] at this
 exact plain_eq this
theorem cellV : Tryz.prog.cellsOf 26 = 3 := by kernel_rfl
theorem cellK : Tryz.prog.cellsOf 24 = 1 := by kernel_rfl
theorem cellI : Tryz.prog.cellsOf 2 = 1 := by kernel_rfl
theorem cellN : Tryz.prog.cellsOf 3 = 1 := by kernel_rfl
theorem cellS : Tryz.prog.cellsOf 9 = 1 := by kernel_rfl
theorem cellIt : Tryz.prog.cellsOf 88 = 6 := by kernel_rfl
theorem cellIs : Tryz.prog.cellsOf 86 = 1 := by kernel_rfl
theorem cellIss : Tryz.prog.cellsOf 39 = 1 := by kernel_rfl
theorem cellW : Tryz.prog.cellsOf 41 = 2 := by kernel_rfl
theorem cellP : Tryz.prog.cellsOf 43 = 5 := by kernel_rfl
theorem uI64 : Tryz.prog.underlying 2 = some (.int .i64) := by kernel_rfl
theorem uInt : Tryz.prog.underlying 3 = some (.int .i64) := by kernel_rfl
theorem uKnd : Tryz.prog.underlying 24 = some (.int .i64) := by kernel_rfl
theorem uStr : Tryz.prog.underlying 9 = some .string := by kernel_rfl
structure VIn (x : Vl) : Prop where
 k : in64 x.k
 n : in64 x.n
 s : x.s.size ≤ maxLen
instance : Inhabited Vl := ⟨Vl.zero⟩
variable {H : Type} {enc : TypeId × Value → H} {w : World} {base : Nat} {sp : Nat → Bool} {hd : Bool}
theorem val_cells {n : Nat} {c0 c1 c2 : Value} {y : DataW H × List MemPlace} (h : DataW.trod enc Tryz.prog w base sp hd n 26 [c0, c1, c2] = some y) :
  ∃ x : Vl, c0 = .int .i64 x.k ∧ c1 = .int .i64 x.n ∧ c2 = .string x.s ∧ VIn x := by
 obtain ⟨y0, y1, y2, m, rfl, _, h0, h1, h2⟩ := trod_struct3 Tryz.underlying26 h
 obtain ⟨k, e0, rfl, wk⟩ := DataW.trod_int uKnd h0
 obtain ⟨a, e1, rfl, wa⟩ := DataW.trod_int uI64 h1
 obtain ⟨s, e2, rfl, ws⟩ := DataW.trod_string uStr h2
 simp only [cellK, cellI, cellS, List.drop_zero, List.drop_succ_cons, List.take_succ_cons, List.take_zero, List.cons.injEq, and_true] at e0 e1 e2
 exact ⟨⟨k, a, s⟩, e0, e1, e2, wf_in64 wk, wf_in64 wa, ws⟩
theorem array5 {a : Array Value} (h : a.size = 5) : ∃ x y z u v, a = #[x, y, z, u, v] := by
 obtain ⟨l⟩ := a
 match l, h with
 | [x, y, z, u, v], _ => exact ⟨x, y, z, u, v, rfl⟩
theorem array2 {a : Array Value} (h : a.size = 2) : ∃ x y, a = #[x, y] := by
 obtain ⟨l⟩ := a
 match l, h with
 | [x, y], _ => exact ⟨x, y, rfl⟩
set_option maxRecDepth 100000 in
theorem put_open {v : Value} {d : DataW H} {p : List MemPlace} {r : Reach} {b0 : Nat} (hv : Value.okWide Tryz.prog w r b0 43 v) (h : DataW.Trod enc Tryz.prog w base sp hd 43 v d p) :
  ∃ (t q : Int) (x : Vl), v = .agg #[.int .i64 t, .int .i64 q, .int .i64 x.k, .int .i64 x.n, .string x.s] ∧ in64 t ∧ in64 q ∧ VIn x := by
 obtain ⟨cs, rfl, hsz⟩ := okWide_struct Tryz.underlying43 hv
 obtain ⟨c0, c1, c2, c3, c4, rfl⟩ := array5 (hsz.trans cellP)
 obtain ⟨fuel, hf⟩ := h
 obtain ⟨y0, y1, y2, m, _, _, h0, h1, h2⟩ := trod_struct3 Tryz.underlying43 hf
 obtain ⟨t, e0, rfl, wt⟩ := DataW.trod_int uInt h0
 obtain ⟨q, e1, rfl, wq⟩ := DataW.trod_int uI64 h1
 simp only [Value.cells, cellN, cellI, cellV, List.drop_zero, List.drop_succ_cons, List.take_succ_cons, List.take_zero, List.cons.injEq, and_true] at e0 e1 h2
 obtain rfl := e0
 obtain rfl := e1
 obtain ⟨x, rfl, rfl, rfl, hx⟩ := val_cells (by simpa using h2)
 exact ⟨t, q, x, rfl, wf_in64 wt, wf_in64 wq, hx⟩
def ValsAt (w : World) (q : Option Addr) (l : List Vl) : Prop := ∀ i x, l[i]? = some x → ∃ b o, q = some ⟨b, o, none⟩ ∧ ArgAt w b (o + i * 3) x
theorem ValsAt.args {w : World} {q : Option Addr} {l : List Vl} (h : ValsAt w q l) (hl : l.length ≤ 1048576) : ArgsAt w q l := ⟨hl, h⟩
theorem ValsAt.ext {w w' : World} {q : Option Addr} {l : List Vl} (h : ValsAt w q l) (he : Ext w w') : ValsAt w' q l := fun i x hx => let ⟨b, o, e, a⟩ := h i x hx; ⟨b, o, e, a.ext he⟩
end Go.Proofs.YtfagldjhibdfhaaGreatDoor
namespace Go.Proofs.YtfagldjhibdfhaaGreatDoor
open Go.RowKit
set_option linter.unusedVariables false
set_option linter.unusedSimpArgs false

def tabsI : Nat → Hp → Hp
 | 0, H => H
 | i + 1, H => tabH (tabsI i H)
def itemsP (t : Vl) : Tb → Hp → Hp
 | [], H => H
 | x :: r, H => itemsP t r (setH H t x.1 x.2)
def fillP : Nat → List Tb → Hp → Hp
 | _, [], H => H
 | i, T :: r, H => fillP (i + 1) r (itemsP ⟨4, (i : Int), eN⟩ T H)
def worldP (c : Int) (ts : List Tb) : Hp := fillP 0 ts (tabsI ts.length (newH c))
theorem tabH_len (H : Hp) : (tabH H).tabs.length ≤ H.tabs.length + 1 := by
 unfold tabH
 split
 ·show (H.tabs ++ [[]]).length ≤ _
  rw [List.length_append]; exact Nat.le_refl _
 ·omega
theorem tabsI_len (H : Hp) : ∀ i, (tabsI i H).tabs.length ≤ H.tabs.length + i
 | 0 => Nat.le_refl _
 | i + 1 => by
  have := tabH_len (tabsI i H)
  have := tabsI_len H i
  show (tabH (tabsI i H)).tabs.length ≤ _
  omega
theorem itemsP_len (t : Vl) : ∀ (T : Tb) (H : Hp), (itemsP t T H).tabs.length = H.tabs.length
 | [], H => rfl
 | x :: r, H => by
  show (itemsP t r (setH H t x.1 x.2)).tabs.length = _
  rw [itemsP_len t r, setH_len]
theorem fillP_len : ∀ (ts : List Tb) (i : Nat) (H : Hp), (fillP i ts H).tabs.length = H.tabs.length
 | [], i, H => rfl
 | T :: r, i, H => by
  show (fillP (i + 1) r (itemsP ⟨4, (i : Int), eN⟩ T H)).tabs.length = _
  rw [fillP_len r, itemsP_len]
theorem worldP_len (c : Int) (ts : List Tb) : (worldP c ts).tabs.length ≤ ts.length := by
 unfold worldP
 rw [fillP_len]
 have := tabsI_len (newH c) ts.length
 have h0 : (newH c).tabs.length = 0 := rfl
 omega
theorem items_step (t : Vl) (T : Tb) (k : Nat) (H : Hp) (x : Vl × Vl) (hx : T[k]? = some x) : itemsP t (T.drop k) H = itemsP t (T.drop (k + 1)) (setH H t x.1 x.2) := by
 obtain ⟨hl, he⟩ := List.getElem?_eq_some_iff.1 hx
 rw [List.drop_eq_getElem_cons hl, he]
 rfl
theorem fill_step (ts : List Tb) (i : Nat) (H : Hp) (T : Tb) (hx : ts[i]? = some T) : fillP i (ts.drop i) H = fillP (i + 1) (ts.drop (i + 1)) (itemsP ⟨4, (i : Int), eN⟩ T H) := by
 obtain ⟨hl, he⟩ := List.getElem?_eq_some_iff.1 hx
 rw [List.drop_eq_getElem_cons hl, he]
 rfl
def ItemsAt (w : World) (q : Option Addr) (T : Tb) : Prop := ∀ j x, T[j]? = some x → ∃ b o, q = some ⟨b, o, none⟩ ∧ ArgAt w b (o + j * 6) x.1 ∧ ArgAt w b (o + j * 6 + 3) x.2
def TablesAt (w : World) (q : Option Addr) (ts : List Tb) : Prop := ∀ i T, ts[i]? = some T → ∃ b o qi ci, q = some ⟨b, o, none⟩ ∧ b < w.heap.size ∧ w.cell? ⟨b, o + i, none⟩ = some (.slice qi T.length ci) ∧ ItemsAt w qi T
theorem ItemsAt.ext {w w' : World} {q : Option Addr} {T : Tb} (h : ItemsAt w q T) (he : Ext w w') : ItemsAt w' q T := fun j x hx => let ⟨b, o, e, a, c⟩ := h j x hx; ⟨b, o, e, a.ext he, c.ext he⟩
theorem TablesAt.ext {w w' : World} {q : Option Addr} {ts : List Tb} (h : TablesAt w q ts) (he : Ext w w') : TablesAt w' q ts := fun i T hT =>
 let ⟨b, o, qi, ci, e, hb, hc, hi⟩ := h i T hT; ⟨b, o, qi, ci, e, Nat.lt_of_lt_of_le hb he.le, (he.cells.1 b _ hb).trans hc, hi.ext he⟩
structure WIn (c : Int) (ts : List Tb) : Prop where
 c : in64 c
 many : ts.length ≤ 1000000
 items : ∀ T ∈ ts, T.length ≤ 9223372036854775807 ∧ ∀ x ∈ T, in64 x.1.n ∧ in64 x.2.n
structure NR (w0 w : World) (g : Nat) (H : Hp) : Prop where
 ex : ∃ tv, RHeapIn w g tv H ∧ ∀ x, RFoot g tv x → w0.heap.size ≤ x
 ext : Ext w0 w
theorem NR.ext' {w0 w w' : World} {g : Nat} {H : Hp} (h : NR w0 w g H) (he : Ext w w') : NR w0 w' g H := let ⟨tv, h1, h2⟩ := h.ex; ⟨⟨tv, h1.ext he, h2⟩, h.ext.trans he⟩
set_option maxRecDepth 100000 in
theorem table_any (n : Int) (w : World) : Calls Tryz.prog 26 #[.int .i64 n] w fun e w' => e = .returned (vv 4 n eN) ∧ Ext w w' := by
 go_enter Tryz.func26, Tryz.ntmps26
 go_wp2_with fail
 exact bodyPost_ret (v := vv 4 n eN) (by simp [results, Tryz.results26, go_sem]) rfl ⟨rfl, (Ext.refl w).alloc _⟩
theorem NH.back {w W1 wr : World} {g : Nat} {H : Hp} (he : Ext w W1) (h : NH W1 wr g H []) : NH w wr g H [] := by
 obtain ⟨tv, rs, h1, h2, h3⟩ := h.ex
 exact ⟨⟨tv, rs, h1, fun x hx => Nat.le_trans he.le (h2 x hx), fun p hp => (List.not_mem_nil hp).elim⟩, he.trans h.ext, fun p hp => (List.not_mem_nil hp).elim, List.nodup_nil⟩
theorem NR.back {w W1 wr : World} {g : Nat} {H : Hp} (he : Ext w W1) (h : NR W1 wr g H) : NR w wr g H := by
 obtain ⟨tv, h1, h2⟩ := h.ex
 exact ⟨⟨tv, h1, fun x hx => Nat.le_trans he.le (h2 x hx)⟩, he.trans h.ext⟩
set_option maxRecDepth 100000 in
set_option maxHeartbeats 8000000 in
theorem heap_any (w : World) (c : Int) (q : Option Addr) (cap : Nat) (ts : List Tb) (hw : WIn c ts) (ht : TablesAt w q ts) :
  Calls Tryz.prog 25 #[.agg #[.int .i64 c, .slice q ts.length cap]] w fun e w' => ∃ g, e = .returned (.pointer (some ⟨g, 0, none⟩)) ∧ NH w w' g (worldP c ts) [] := by
 obtain ⟨R, hR⟩ : ∃ R, worldP c ts = R := ⟨_, rfl⟩
 rw [hR]
 have HRR := Lib.hid hR
 obtain ⟨n, hn⟩ : ∃ n, ts.length = n := ⟨_, rfl⟩
 have hn2 : n ≤ 1000000 := by rw [← hn]; exact hw.many
 have HWI := Lib.hid hw
 have HTS := Lib.hid ht
 have HNN := Lib.hid hn
 have hc := hw.c
 obtain ⟨hc1, hc2⟩ := hc
 rw [hn]
 clear hR hw ht hn
 go_enter Tryz.func25, Tryz.ntmps25
 go_wp2_with fail
 have HE0 := Lib.hid ((Ext.refl w).alloc (.cells #[.int .i64 c, .slice q n cap] 41))
 have HBX := Lib.hid (Blk.new w 41 #[.int .i64 c, .slice q n cap])
 have hsz : (w.alloc (.cells #[.int .i64 c, .slice q n cap] 41)).heap.size = w.heap.size + 1 := size_alloc _ _
 have HT1 := Lib.hid (HTS.out.ext HE0.out)
 refine (nh_new c (Ext.refl (w.alloc (.cells #[.int .i64 c, .slice q n cap] 41))) hc2 hc1).mono ?_
 generalize w.alloc (.cells #[.int .i64 c, .slice q n cap] 41) = W1 at *
 obtain ⟨B0, hB0⟩ : ∃ B0, w.heap.size = B0 := ⟨_, rfl⟩
 rw [hB0] at HBX hsz ⊢
 clear hB0
 rintro e w1 ⟨g, rfl, n1⟩
 have N : Hid (NH W1 w1 g (newH c) []) := Lib.hid n1
 clear n1
 obtain ⟨a0, a1⟩ := (⟨HBX.out.cell 0, HBX.out.cell 1⟩ : W1.cell? ⟨B0, 0, none⟩ = some (.int .i64 c) ∧ W1.cell? ⟨B0, 1, none⟩ = some (.slice q n cap))
 have hB : B0 < W1.heap.size := HBX.out.lt
 have AB := Lib.hid (And.intro a0 a1)
 clear a0 a1
 have y1 := (N.out.ext.cells.1 _ _ hB).trans AB.out.2
 have hBl : B0 < w1.heap.size := Nat.lt_of_lt_of_le hB N.out.ext.le
 go_wp2_with fail
 clear y1 hBl
 go_loopw [4] (fun s4 wr => ∃ i : Nat, s4 = .int .i64 (i : Int) ∧ i ≤ n ∧ Hid (NH W1 wr g (tabsI i (newH c)) [])) (fun s4 _ => n - (intOf s4).toNat)
 case atStart => exact ⟨0, rfl, Nat.zero_le _, N⟩
 case round =>
  obtain ⟨i, rfl, hi, HN⟩ := hrel
  clear N
  have y1 := (HN.out.ext.cells.1 _ _ hB).trans AB.out.2
  have hBl : B0 < wr.heap.size := Nat.lt_of_lt_of_le hB HN.out.ext.le
  by_cases hlt : i < n
  ·have hd : decide ((i : Int) < (n : Int)) = true := decide_eq_true (by omega)
   have hd' : decide (i < n) = true := decide_eq_true hlt
   have hl9 : (tabsI i (newH c)).tabs.length ≤ 1000000000000 := by have := tabsI_len (newH c) i; have h0 : (newH c).tabs.length = 0 := rfl; omega
   go_wp2_with fail
   refine (nh_table HN.out hl9).mono ?_
   rintro e w3 ⟨rfl, n3⟩
   have HN3 := Lib.hid n3
   clear n3 y1 hBl
   go_wp2_with fail
   go_roundw
   case rel => exact ⟨i + 1, by go_num, by omega, HN3⟩
   case measure => simp [intOf]; omega
  ·obtain rfl : i = n := by omega
   have hd : decide ((i : Int) < (i : Int)) = false := decide_eq_false (by omega)
   have hd' : decide (i < i) = false := decide_eq_false (by omega)
   have HF : Hid (fillP 0 (ts.drop 0) (tabsI i (newH c)) = R) := Lib.hid (by
    rw [List.drop_zero, ← HRR.out]
    unfold worldP
    rw [HNN.out])
   have hl9 : (tabsI i (newH c)).tabs.length ≤ 1000000 := by have := tabsI_len (newH c) i; have h0 : (newH c).tabs.length = 0 := rfl; omega
   have HN1 : Hid (∃ H0, NH W1 wr g H0 [] ∧ H0.tabs.length ≤ 1000000 ∧ fillP 0 (ts.drop 0) H0 = R) := Lib.hid ⟨_, HN.out, hl9, HF.out⟩
   go_wp2_with fail
   clear y1 hBl hd hd' hl9 HF HN
   go_loopw [5] (fun s5 wr => ∃ (j : Nat) (Hc : Hp), s5 = .int .i64 (j : Int) ∧ j ≤ i ∧ Hid (NH W1 wr g Hc []) ∧ Hc.tabs.length ≤ 1000000 ∧ Hid (fillP j (ts.drop j) Hc = R)) (fun s5 _ => i - (intOf s5).toNat)
   case atStart =>
    obtain ⟨H0, h1, h2, h3⟩ := HN1.out
    exact ⟨0, H0, rfl, Nat.zero_le _, Lib.hid h1, h2, Lib.hid h3⟩
   case round =>
    obtain ⟨j, Hc, rfl, hj, HN, hcl, HF⟩ := hrel
    clear HN1
    have y1 := (HN.out.ext.cells.1 _ _ hB).trans AB.out.2
    have hBl : B0 < wr.heap.size := Nat.lt_of_lt_of_le hB HN.out.ext.le
    have hjI : (j : Int) ≤ 1000000 := by omega
    have hj0 : (0 : Int) ≤ (j : Int) := by omega
    by_cases hlt : j < i
    ·have hd : decide ((j : Int) < (i : Int)) = true := decide_eq_true (by omega)
     have hd' : decide (j < i) = true := decide_eq_true hlt
     have hltI : (j : Int) < (i : Int) := by omega
     obtain ⟨T, hT⟩ : ∃ T, ts[j]? = some T := ⟨_, List.getElem?_eq_getElem (by have := HNN.out; omega)⟩
     obtain ⟨b, o, qi, ci, hq, hb, hcell, hit⟩ := HT1.out j T hT
     subst hq
     have HIT := Lib.hid hit
     have HCE := Lib.hid hcell
     have HTM := Lib.hid (HWI.out.items T (List.mem_of_getElem? hT))
     have HF2 : Hid (fillP (j + 1) (ts.drop (j + 1)) (itemsP ⟨4, (j : Int), eN⟩ (T.drop 0) Hc) = R) := Lib.hid (by rw [List.drop_zero, ← HF.out, fill_step ts j Hc T hT])
     obtain ⟨m, hm⟩ : ∃ m, T.length = m := ⟨_, rfl⟩
     have hmx : (m : Int) ≤ 9223372036854775807 := by have := HTM.out.1; omega
     have HMM := Lib.hid hm
     rw [hm] at HCE
     have HN1 : Hid (∃ H0, NH W1 wr g H0 [] ∧ H0.tabs.length ≤ 1000000 ∧ fillP (j + 1) (ts.drop (j + 1)) (itemsP ⟨4, (j : Int), eN⟩ (T.drop 0) H0) = R) := Lib.hid ⟨_, HN.out, hcl, HF2.out⟩
     clear hT hcell hit hm HF2
     go_wp2_with fail
     clear y1 hBl hd hd' HN hcl HF
     go_loopw [6] (fun s6 wr => ∃ (k : Nat) (Hk : Hp), s6 = .int .i64 (k : Int) ∧ k ≤ m ∧ Hid (NH W1 wr g Hk []) ∧ Hk.tabs.length ≤ 1000000 ∧ Hid (fillP (j + 1) (ts.drop (j + 1)) (itemsP ⟨4, (j : Int), eN⟩ (T.drop k) Hk) = R)) (fun s6 _ => m - (intOf s6).toNat)
     case atStart =>
      obtain ⟨H0, h1, h2, h3⟩ := HN1.out
      exact ⟨0, H0, rfl, Nat.zero_le _, Lib.hid h1, h2, Lib.hid h3⟩
     case round =>
      obtain ⟨k, Hk, rfl, hk, HN, hkl, HF⟩ := hrel
      clear HN1
      have y1 := (HN.out.ext.cells.1 _ _ hB).trans AB.out.2
      have hBl : B0 < wr.heap.size := Nat.lt_of_lt_of_le hB HN.out.ext.le
      have y2 := (HN.out.ext.cells.1 _ _ hb).trans HCE.out
      have hbl : b < wr.heap.size := Nat.lt_of_lt_of_le hb HN.out.ext.le
      have hkI : (k : Int) ≤ 9223372036854775807 := by omega
      have hk0 : (0 : Int) ≤ (k : Int) := by omega
      by_cases hltk : k < m
      ·have hdk : decide ((k : Int) < (m : Int)) = true := decide_eq_true (by omega)
       have hdk' : decide (k < m) = true := decide_eq_true hltk
       have hltkI : (k : Int) < (m : Int) := by omega
       obtain ⟨x, hx⟩ : ∃ x, T[k]? = some x := ⟨_, List.getElem?_eq_getElem (by have := HMM.out; omega)⟩
       obtain ⟨b2, o2, hq2, ak, av⟩ := HIT.out k x hx
       subst hq2
       have hxn := HTM.out.2 x (List.mem_of_getElem? hx)
       have hb2 : b2 < W1.heap.size := ak.lt
       have hb2l : b2 < wr.heap.size := Nat.lt_of_lt_of_le hb2 HN.out.ext.le
       have HSP := HF.out
       rw [items_step _ _ _ _ _ hx] at HSP
       have HSP := Lib.hid HSP
       have hS := Lib.hid (fun (Z : World) (hZ : Ext wr Z) => nh_set (HN.out.ext' hZ) (by omega) ⟨4, (j : Int), eN⟩ x.1 x.2 hxn.1 hxn.2)
       obtain ⟨⟨xk, xn, xs⟩, ⟨vk, vn, vs⟩⟩ := x
       have AK := Lib.hid ak
       have AV := Lib.hid av
       have z0 := (HN.out.ext.cells.1 _ _ hb2).trans ak.k
       have z1 := (HN.out.ext.cells.1 _ _ hb2).trans ak.n
       have z2 := (HN.out.ext.cells.1 _ _ hb2).trans ak.s
       have v0 := (HN.out.ext.cells.1 _ _ hb2).trans av.k
       have v1 := (HN.out.ext.cells.1 _ _ hb2).trans av.n
       have v2 := (HN.out.ext.cells.1 _ _ hb2).trans av.s
       simp only at z0 z1 z2 v0 v1 v2 hS
       clear hx ak av hxn HF
       go_wp2_with fail
       go_region_held3 (fun w' => w'.cell? ⟨B0, 1, none⟩ = some (.slice (some ⟨b, o, none⟩) i cap) ∧ w'.cell? ⟨b, o + j, none⟩ = some (.slice (some ⟨b2, o2, none⟩) m ci) ∧ w'.cell? ⟨b2, o2 + k * 6, none⟩ = some (.int .i64 xk) ∧ w'.cell? ⟨b2, o2 + k * 6 + 1, none⟩ = some (.int .i64 xn) ∧ w'.cell? ⟨b2, o2 + k * 6 + 2, none⟩ = some (.string xs) ∧ w'.cell? ⟨b2, o2 + k * 6 + 3, none⟩ = some (.int .i64 vk) ∧ w'.cell? ⟨b2, o2 + k * 6 + 3 + 1, none⟩ = some (.int .i64 vn) ∧ w'.cell? ⟨b2, o2 + k * 6 + 3 + 2, none⟩ = some (.string vs)) (go_keep)
        (first
         | (go_at_call 26; refine (table_any _ _).mono ?_; rintro e w6 ⟨rfl, e6⟩; have E6 := Lib.hid (show Ext wr w6 from (Ext.refl wr).drew.trans e6); have p1 := (E6.out.cells.1 _ _ hBl).trans y1; have p2 := (E6.out.cells.1 _ _ hbl).trans y2; have r0 := (E6.out.cells.1 _ _ hb2l).trans z0; have r1 := (E6.out.cells.1 _ _ hb2l).trans z1; have r2 := (E6.out.cells.1 _ _ hb2l).trans z2; have t0 := (E6.out.cells.1 _ _ hb2l).trans v0; have t1 := (E6.out.cells.1 _ _ hb2l).trans v1; have t2 := (E6.out.cells.1 _ _ hb2l).trans v2; clear e6)
         | (go_at_call 19; refine (hS.out _ E6.out).mono ?_; rintro e w7 ⟨rfl, n7⟩; have U7 := Lib.hid n7; have pp1 := (n7.ext.cells.1 _ _ hB).trans AB.out.2; have pp2 := (n7.ext.cells.1 _ _ hb).trans HCE.out; have rr0 := (n7.ext.cells.1 _ _ hb2).trans AK.out.k; have rr1 := (n7.ext.cells.1 _ _ hb2).trans AK.out.n; have rr2 := (n7.ext.cells.1 _ _ hb2).trans AK.out.s; have tt0 := (n7.ext.cells.1 _ _ hb2).trans AV.out.k; have tt1 := (n7.ext.cells.1 _ _ hb2).trans AV.out.n; have tt2 := (n7.ext.cells.1 _ _ hb2).trans AV.out.s; simp only at rr0 rr1 rr2 tt0 tt1 tt2; clear n7))
       clear HN y1 y2 hBl hbl z0 z1 z2 v0 v1 v2 hb2l hS
       have hkl2 : (setH Hk ⟨4, (j : Int), eN⟩ ⟨xk, xn, xs⟩ ⟨vk, vn, vs⟩).tabs.length ≤ 1000000 := by rw [setH_len]; exact hkl
       all_goals go_wp2_with fail
       all_goals (
        go_roundw
        case rel => exact ⟨k + 1, _, by go_num, by omega, U7, hkl2, HSP⟩
        case measure => simp [intOf]; omega)
      ·obtain rfl : k = m := by omega
       have hdk : decide ((k : Int) < (k : Int)) = false := decide_eq_false (by omega)
       have hdk' : decide (k < k) = false := decide_eq_false (by omega)
       have HSP := HF.out
       rw [show T.drop k = [] from List.drop_eq_nil_of_le (by have := HMM.out; omega)] at HSP
       have HSP : Hid (fillP (j + 1) (ts.drop (j + 1)) Hk = R) := Lib.hid HSP
       clear HF
       go_wp2_with fail
       go_roundw
       case rel => exact ⟨j + 1, Hk, by go_num, by omega, HN, hkl, HSP⟩
       case measure => simp [intOf]; omega
    ·obtain rfl : j = i := by omega
     have hd : decide ((j : Int) < (j : Int)) = false := decide_eq_false (by omega)
     have hd' : decide (j < j) = false := decide_eq_false (by omega)
     have hfin : Hc = R := by
      have h9 := HF.out
      rw [show ts.drop j = [] from List.drop_eq_nil_of_le (by have := HNN.out; omega)] at h9
      exact h9
     have HFI := Lib.hid hfin
     clear hfin HF
     go_wp2_with fail
     go_ret
     exact ⟨g, rfl, by rw [← HFI.out]; exact NH.back HE0.out HN.out⟩
end Go.Proofs.YtfagldjhibdfhaaGreatDoor
namespace Go.Proofs.YtfagldjhibdfhaaGreatDoor
open Go.RowKit
set_option linter.unusedVariables false
set_option linter.unusedSimpArgs false

end Go.Proofs.YtfagldjhibdfhaaGreatDoor
namespace Go.Proofs.YtfagldjhibdfhaaGreatDoor
open Go.RowKit
set_option linter.unusedVariables false
set_option linter.unusedSimpArgs false

theorem upP_len (t : Vl) (a : Int) : ∀ (k : Nat) (H : Hp), (upP t a k H).1.tabs.length = H.tabs.length
 | 0, H => rfl
 | k + 1, H => by
  unfold upP
  split
  ·rw [upP_len t a k, setH_len]
  ·rfl
theorem dnP_len (t : Vl) (n : Int) : ∀ (k : Nat) (H : Hp), (dnP t n k H).1.tabs.length = H.tabs.length
 | 0, H => rfl
 | k + 1, H => by
  unfold dnP
  split
  ·rw [dnP_len t n k, setH_len]
  ·rfl
theorem putP_len (t : Vl) : ∀ (l : List Vl) (i : Int) (H : Hp), (putP t l i H).1.tabs.length = H.tabs.length
 | [], i, H => rfl
 | v :: r, i, H => by
  unfold putP
  split
  ·rw [putP_len t r, setH_len]
  ·rfl
theorem insertR_len (H : Hp) (t : Vl) (a : Int) (v : Vl) : (insertR H t a v).H.tabs.length = H.tabs.length := by
 unfold insertR
 split
 ·rfl
 ·split
  ·rfl
  ·simp only
   split
   ·show (setH _ _ _ _).tabs.length = _
    rw [setH_len, upP_len]
   ·show (upP _ _ _ _).1.tabs.length = _
    rw [upP_len]
theorem removeR_len (H : Hp) (t : Vl) (a : Option Int) : (removeR H t a).H.tabs.length = H.tabs.length := by
 unfold removeR
 simp only
 split
 ·rfl
 ·split
  ·rfl
  ·split
   ·split
    ·show (setH _ _ _ _).tabs.length = _
     rw [setH_len, dnP_len]
    ·show (setH _ _ _ _).tabs.length = _
     rw [setH_len, dnP_len]
   ·show (dnP _ _ _ _).1.tabs.length = _
    rw [dnP_len]
theorem keyTR_len (H : Hp) (t : Vl) : (keyTR H t).H.tabs.length ≤ H.tabs.length + 1 := by
 have h1 := tabH_len H
 unfold keyTR
 split
 ·split
  ·simp only
   split
   ·show (putP _ _ _ _).1.tabs.length ≤ _
    rw [putP_len]; exact h1
   ·show (putP _ _ _ _).1.tabs.length ≤ _
    rw [putP_len]; exact h1
  ·exact Nat.le_succ _
 ·exact Nat.le_succ _
theorem doR_len (H : Hp) (f : Nat) (l : List Vl) : (doR H f l).H.tabs.length ≤ H.tabs.length + 1 := by
 have hc : f = 0 ∨ f = 1 ∨ f = 2 ∨ f = 3 ∨ f = 4 ∨ f = 5 ∨ f = 6 ∨ f = 7 ∨ f = 8 ∨ f = 9 ∨ f = 10 ∨ f = 11 ∨ 12 ≤ f := by omega
 rcases hc with rfl | rfl | rfl | rfl | rfl | rfl | rfl | rfl | rfl | rfl | rfl | rfl | hf
 ·exact Nat.le_succ _
 ·show (charR H l).H.tabs.length ≤ _
  unfold charR
  split <;> exact Nat.le_succ _
 ·show (concatR H _ _).H.tabs.length ≤ _
  unfold concatR
  split <;> exact Nat.le_succ _
 ·exact Nat.le_succ _
 ·show (if l.length = 2 then _ else _ : Rs).H.tabs.length ≤ _
  split
  ·rw [insertR_len]; exact Nat.le_succ _
  ·rw [insertR_len]; exact Nat.le_succ _
 ·exact keyTR_len H _
 ·show (lenR H _).H.tabs.length ≤ _
  unfold lenR
  split <;> exact Nat.le_succ _
 ·show (removeR H _ _).H.tabs.length ≤ _
  rw [removeR_len]; exact Nat.le_succ _
 ·show (repR H _ _).H.tabs.length ≤ _
  unfold repR
  split <;> exact Nat.le_succ _
 ·exact Nat.le_succ _
 ·exact Nat.le_succ _
 ·exact Nat.le_succ _
 ·obtain ⟨k, rfl⟩ : ∃ k, f = k + 12 := ⟨f - 12, by omega⟩
  exact Nat.le_succ _
theorem callH_len (H : Hp) (name : ByteArray) (l : List Vl) : (callH H name l).tabs.length ≤ H.tabs.length + 1 := by
 unfold callH callR
 cases libIdx name with
 | none => exact Nat.le_succ _
 | some f =>
  simp only [Option.map_some]
  split
  ·exact doR_len H f l
  ·exact Nat.le_succ _
structure AK (w0 w : World) (g gr : Nat) (H R : Hp) (L : List (Nat × Obj)) : Prop where
 ex : ∃ tv rs tr, HeapIn w g tv rs H ∧ RHeapIn w gr tr R ∧ (∀ x, Foot g tv rs x → w0.heap.size ≤ x) ∧ (∀ x, RFoot gr tr x → w0.heap.size ≤ x) ∧ ∀ p ∈ L, ¬ Foot g tv rs p.1 ∧ ¬ RFoot gr tr p.1
 ext : Ext w0 w
 row : ∀ p ∈ L, w.heap[p.1]? = some p.2
section
variable {w0 w w' : World} {g gr k : Nat} {H R : Hp} {L : List (Nat × Obj)}
theorem AK.ext' (h : AK w0 w g gr H R L) (he : Ext w w') : AK w0 w' g gr H R L := by
 obtain ⟨tv, rs, tr, h1, h2, h3⟩ := h.ex
 exact ⟨⟨tv, rs, tr, h1.ext he, h2.ext he, h3⟩, h.ext.trans he, fun p hp => (he.block _ (lt_of_block (h.row p hp))).trans (h.row p hp)⟩
theorem AK.new (h : AK w0 w g gr H R L) (o : Obj) : AK w0 (w.alloc o) g gr H R ((w.heap.size, o) :: L) := by
 obtain ⟨tv, rs, tr, h1, h2, f1, f2, n⟩ := h.ex
 have hE := (Ext.refl w).alloc o
 refine ⟨⟨tv, rs, tr, h1.ext hE, h2.ext hE, f1, f2, fun p hp => ?_⟩, h.ext.trans hE, fun p hp => ?_⟩
 ·rcases List.mem_cons.1 hp with rfl | hp
  ·exact ⟨fun hf => Nat.lt_irrefl _ (h1.low hf), fun hf => Nat.lt_irrefl _ (h2.low hf)⟩
  ·exact n p hp
 ·rcases List.mem_cons.1 hp with rfl | hp
  ·exact heap_alloc_new _ _
  ·exact (hE.block _ (lt_of_block (h.row p hp))).trans (h.row p hp)
theorem AK.of {w1 w2 w3 : World} {o : Obj} (h : NH w0 w1 g H []) (hr : NR w1 w2 gr R) (he : Ext w2 w3) (hk : w3.heap[k]? = some o) (hn : w2.heap.size ≤ k) : AK w0 w3 g gr H R [(k, o)] := by
 obtain ⟨tv, rs, h1, h2, _⟩ := h.ex
 obtain ⟨tr, r1, r2⟩ := hr.ex
 refine ⟨⟨tv, rs, tr, (h1.ext hr.ext).ext he, r1.ext he, h2, fun x hx => Nat.le_trans h.ext.le (r2 x hx), fun p hp => ?_⟩, (h.ext.trans hr.ext).trans he, fun p hp => ?_⟩
 ·rcases List.mem_cons.1 hp with rfl | hp
  ·refine ⟨fun hf => ?_, fun hf => ?_⟩
   ·have h8 := h1.low hf
    have h9 := hr.ext.le
    simp only at h8
    omega
   ·have h8 := r1.low hf
    simp only at h8
    omega
  ·exact (List.not_mem_nil hp).elim
 ·rcases List.mem_cons.1 hp with rfl | hp
  ·exact hk
  ·exact (List.not_mem_nil hp).elim
end
end Go.Proofs.YtfagldjhibdfhaaGreatDoor
namespace Go.Proofs.YtfagldjhibdfhaaGreatDoor
open Go.RowKit
set_option linter.unusedVariables false
set_option linter.unusedSimpArgs false

theorem RowB.form {w : World} {B : Nat} {v : Value} {l : List Vl} (h : RowB w B v l) (hl : l ≠ []) : ∃ k cap o, v = .slice (some ⟨k, 0, none⟩) l.length cap ∧ B ≤ k ∧ l.length ≤ cap ∧ cap ≤ maxLen ∧ w.heap[k]? = some o := by
 obtain ⟨_, hrow⟩ := h
 rcases hrow with ⟨_, h0⟩ | ⟨g, cap, cur, e1, hb, hc, h2, h3, _⟩
 ·exact absurd (List.eq_nil_of_length_eq_zero h0) hl
 ·exact ⟨g, cap, _, e1, hb, h2, h3, hc⟩
theorem RowB.vals {w : World} {B k cap n : Nat} {l : List Vl} (h : RowB w B (.slice (some ⟨k, 0, none⟩) n cap) l) : ValsAt w (some ⟨k, 0, none⟩) l := fun i x hx => by
 obtain ⟨b, c, e, _, c0, c1, c2⟩ := h.at0.cells i x hx
 obtain rfl : k = b := by injection e with e _ _; injection e with e; injection e
 refine ⟨k, 0, rfl, ?_, ?_, ?_⟩
 ·simpa using c0
 ·simpa using c1
 ·simpa using c2
end Go.Proofs.YtfagldjhibdfhaaGreatDoor
