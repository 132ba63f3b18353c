/- A reply behind its sign: all but a list. -/
import Derived.Test.YtopdgmchkoaeeaaDoorRsJ
namespace Go.Proofs.YtopdgmchkoaeeaaDoor
open Go.RowKit
set_option linter.unusedVariables false
set_option linter.unusedSimpArgs false

/-- What reading a reply leaves. -/
def RepE (w : World) (g : Nat) (q : Option Addr) (cap : Nat) (l : List UInt8) (d : Nat) (r : Except Int (Rep × St)) (e : Ending) (w' : World) : Prop :=
  match r with
  | .ok x => ∃ v, e = .returned v ∧ RepV (fun b => w.heap.size ≤ b) w' d v x.1 ∧ InAt w' g q cap l x.2.p x.2.texts x.2.items ∧ Only g w w'
  | .error c => Gave c e ∧ Only g w w'
theorem RepE.ok {w : World} {g : Nat} {q : Option Addr} {cap : Nat} {l : List UInt8} {d : Nat} {r : Except Int (Rep × St)} {e : Ending} {w' : World} {x : Rep × St} (hr : r = .ok x) (h : ∃ v, e = .returned v ∧ RepV (fun b => w.heap.size ≤ b) w' d v x.1 ∧ InAt w' g q cap l x.2.p x.2.texts x.2.items ∧ Only g w w') : RepE w g q cap l d r e w' := by
  subst hr; exact h
theorem RepE.err {w : World} {g : Nat} {q : Option Addr} {cap : Nat} {l : List UInt8} {d : Nat} {r : Except Int (Rep × St)} {e : Ending} {w' : World} {c : Int} (hr : r = .error c) (h : Gave c e ∧ Only g w w') : RepE w g q cap l d r e w' := by
  subst hr; exact h
theorem nil_list (ok : Nat → Prop) (w : World) (d : Nat) : ListAt ok w d (.slice none 0 0) [] := by
  cases d with
  | zero => exact ⟨rfl, none, 0, rfl⟩
  | succ d => exact ⟨none, 0, rfl, fun h => absurd h (by simp)⟩

theorem put4 {w : World} {b : Nat} {a0 a1 a2 a3 : Value} (B : Blk w b 41 #[a0, a1, a2, a3]) (x0 x1 x2 x3 : Value) :
    Blk ((((w.setCell ⟨b, 0, none⟩ x0).setCell ⟨b, 1, none⟩ x1).setCell ⟨b, 2, none⟩ x2).setCell ⟨b, 3, none⟩ x3) b 41 #[x0, x1, x2, x3] := by
  simpa using (((B.set_ 0 x0).set_ 1 x1).set_ 2 x2).set_ 3 x3
theorem rep_put {w w1 : World} {g b : Nat} {q : Option Addr} {cap : Nat} {l : List UInt8} {p t i p' t' i' : Int} {a0 a1 a2 a3 : Value} (H : InAt w g q cap l p t i) (HI : InAt w1 g q cap l p' t' i') (O : Only g w w1) (hb : w.heap.size ≤ b)
    (B : Blk w1 b 41 #[a0, a1, a2, a3]) (x0 x1 x2 x3 : Value) :
    InAt ((((w1.setCell ⟨b, 0, none⟩ x0).setCell ⟨b, 1, none⟩ x1).setCell ⟨b, 2, none⟩ x2).setCell ⟨b, 3, none⟩ x3) g q cap l p' t' i' ∧
    Only g w ((((w1.setCell ⟨b, 0, none⟩ x0).setCell ⟨b, 1, none⟩ x1).setCell ⟨b, 2, none⟩ x2).setCell ⟨b, 3, none⟩ x3) ∧
    Blk ((((w1.setCell ⟨b, 0, none⟩ x0).setCell ⟨b, 1, none⟩ x1).setCell ⟨b, 2, none⟩ x2).setCell ⟨b, 3, none⟩ x3) b 41 #[x0, x1, x2, x3] := by
  have hg := H.lt
  have O4 : Only g w ((((w1.setCell ⟨b, 0, none⟩ x0).setCell ⟨b, 1, none⟩ x1).setCell ⟨b, 2, none⟩ x2).setCell ⟨b, 3, none⟩ x3) := (((O.setCell (.inr hb) _).setCell (.inr hb) _).setCell (.inr hb) _).setCell (.inr hb) _
  have hne : ∀ j, g ≠ (⟨b, j, none⟩ : Addr).block := fun j => by show g ≠ b; omega
  exact ⟨H.put O4 ((((HI.blk.far (hne 0) _).far (hne 1) _).far (hne 2) _).far (hne 3) _), O4, put4 B _ _ _ _⟩

set_option maxRecDepth 100000 in
set_option maxHeartbeats 2000000 in
theorem kind1_any (w : World) (g tp : Nat) (q : Option Addr) (cap : Nat) (l : List UInt8) (d p t i : Nat) (h : InAt w g q cap l p t i) (hp : p ≤ l.length) (ht : t ≤ 1048576)
    (hb : Blk w tp 79 #[.func (.func 77) #[.pointer (some ⟨g, 0, none⟩)] #[]]) :
    Calls Tryd.prog 79 #[.pointer (some ⟨tp, 0, none⟩)] w (RepE w g q cap l d ((lineS' l t p).map fun x => (.mk 1 0 x.1 [], ⟨x.2.1, x.2.2, i⟩))) := by
  obtain ⟨r, hr⟩ : ∃ r, lineS' l t p = r := ⟨_, rfl⟩
  have H := Lib.hid h
  have c0 := hb.cell 0
  simp only [List.getElem?_toArray, List.getElem?_cons_zero, List.getElem?_cons_succ] at c0
  have cP := fun W (hE : Ext w W) => plain_any W g q cap l p t i (h.ext hE) hp ht
  rw [hr] at cP ⊢
  have hlt := hb.lt
  have hne : ¬ tp = w.heap.size := by omega
  clear hr h hb
  go_enter Tryd.func79, Tryd.ntmps79
  go_wp2_with fail
  refine (cP _ ((Ext.refl w).alloc _)).mono ?_
  intro e w1 hs
  cases r with
  | error x =>
    obtain ⟨rfl, o2⟩ := hs
    go_wp2_with fail
    exact ⟨rfl, RepE.err rfl ⟨rfl, (Only.refl g w).alloc _ |>.trans o2⟩⟩
  | ok x =>
    obtain ⟨rfl, i2, o2⟩ := hs
    have hg := H.out.lt
    have B1 : Blk w1 w.heap.size 41 #[.int .i64 0, .int .i64 0, .string ⟨#[]⟩, .slice none 0 0] := (Blk.new w _ _).only o2 (by omega)
    have b0 := B1.cell 0
    have b1 := B1.cell 1
    have b2 := B1.cell 2
    have b3 := B1.cell 3
    have z0 := B1.frozen 0
    have z1 := B1.frozen 1
    have z2 := B1.frozen 2
    have z3 := B1.frozen 3
    simp only [List.getElem?_toArray, List.getElem?_cons_zero, List.getElem?_cons_succ] at b0 b1 b2 b3
    have HI := Lib.hid i2
    have HO := Lib.hid (((Only.refl g w).alloc _).trans o2)
    have HB := Lib.hid B1
    clear i2 o2 B1 cP c0
    go_wp2_with fail
    have R := rep_put H.out HI.out HO.out (Nat.le_refl _) HB.out (.int .i64 1) (.int .i64 0) (.string x.1) (.slice none 0 0)
    generalize (((w1.setCell { block := w.heap.size, off := 0 } (Value.int IntKind.i64 1)).setCell { block := w.heap.size, off := 1 } (Value.int IntKind.i64 0)).setCell { block := w.heap.size, off := 2 } (Value.string x.1)).setCell { block := w.heap.size, off := 3 } (Value.slice none 0 0) = w4 at R ⊢
    obtain ⟨I4, O4, B4⟩ := R
    have e0 := B4.cell 0
    have e1 := B4.cell 1
    have e2 := B4.cell 2
    have e3 := B4.cell 3
    simp only [List.getElem?_toArray, List.getElem?_cons_zero, List.getElem?_cons_succ] at e0 e1 e2 e3
    exact bodyPost_ret (v := .agg #[.int .i64 1, .int .i64 0, .string x.1, .slice none 0 0]) (by simp [results, Tryd.results79, go_sem, e0, e1, e2, e3]) rfl (RepE.ok rfl ⟨_, rfl, ⟨_, rfl, nil_list _ _ _⟩, I4, O4⟩)
set_option maxRecDepth 100000 in
set_option maxHeartbeats 2000000 in
theorem kind2_any (w : World) (g tp : Nat) (q : Option Addr) (cap : Nat) (l : List UInt8) (d p t i : Nat) (h : InAt w g q cap l p t i) (hp : p ≤ l.length) (ht : t ≤ 1048576)
    (hb : Blk w tp 79 #[.func (.func 77) #[.pointer (some ⟨g, 0, none⟩)] #[]]) :
    Calls Tryd.prog 80 #[.pointer (some ⟨tp, 0, none⟩)] w (RepE w g q cap l d ((lineS' l t p).map fun x => (.mk 2 0 x.1 [], ⟨x.2.1, x.2.2, i⟩))) := by
  obtain ⟨r, hr⟩ : ∃ r, lineS' l t p = r := ⟨_, rfl⟩
  have H := Lib.hid h
  have c0 := hb.cell 0
  simp only [List.getElem?_toArray, List.getElem?_cons_zero, List.getElem?_cons_succ] at c0
  have cP := fun W (hE : Ext w W) => plain_any W g q cap l p t i (h.ext hE) hp ht
  rw [hr] at cP ⊢
  have hlt := hb.lt
  have hne : ¬ tp = w.heap.size := by omega
  clear hr h hb
  go_enter Tryd.func80, Tryd.ntmps80
  go_wp2_with fail
  refine (cP _ ((Ext.refl w).alloc _)).mono ?_
  intro e w1 hs
  cases r with
  | error x =>
    obtain ⟨rfl, o2⟩ := hs
    go_wp2_with fail
    exact ⟨rfl, RepE.err rfl ⟨rfl, (Only.refl g w).alloc _ |>.trans o2⟩⟩
  | ok x =>
    obtain ⟨rfl, i2, o2⟩ := hs
    have hg := H.out.lt
    have B1 : Blk w1 w.heap.size 41 #[.int .i64 0, .int .i64 0, .string ⟨#[]⟩, .slice none 0 0] := (Blk.new w _ _).only o2 (by omega)
    have b0 := B1.cell 0
    have b1 := B1.cell 1
    have b2 := B1.cell 2
    have b3 := B1.cell 3
    have z0 := B1.frozen 0
    have z1 := B1.frozen 1
    have z2 := B1.frozen 2
    have z3 := B1.frozen 3
    simp only [List.getElem?_toArray, List.getElem?_cons_zero, List.getElem?_cons_succ] at b0 b1 b2 b3
    have HI := Lib.hid i2
    have HO := Lib.hid (((Only.refl g w).alloc _).trans o2)
    have HB := Lib.hid B1
    clear i2 o2 B1 cP c0
    go_wp2_with fail
    have R := rep_put H.out HI.out HO.out (Nat.le_refl _) HB.out (.int .i64 2) (.int .i64 0) (.string x.1) (.slice none 0 0)
    generalize (((w1.setCell { block := w.heap.size, off := 0 } (Value.int IntKind.i64 2)).setCell { block := w.heap.size, off := 1 } (Value.int IntKind.i64 0)).setCell { block := w.heap.size, off := 2 } (Value.string x.1)).setCell { block := w.heap.size, off := 3 } (Value.slice none 0 0) = w4 at R ⊢
    obtain ⟨I4, O4, B4⟩ := R
    have e0 := B4.cell 0
    have e1 := B4.cell 1
    have e2 := B4.cell 2
    have e3 := B4.cell 3
    simp only [List.getElem?_toArray, List.getElem?_cons_zero, List.getElem?_cons_succ] at e0 e1 e2 e3
    exact bodyPost_ret (v := .agg #[.int .i64 2, .int .i64 0, .string x.1, .slice none 0 0]) (by simp [results, Tryd.results80, go_sem, e0, e1, e2, e3]) rfl (RepE.ok rfl ⟨_, rfl, ⟨_, rfl, nil_list _ _ _⟩, I4, O4⟩)
set_option maxRecDepth 100000 in
set_option maxHeartbeats 2000000 in
theorem kind3_any (w : World) (g tp : Nat) (q : Option Addr) (cap : Nat) (l : List UInt8) (d p t i : Nat) (h : InAt w g q cap l p t i) (hp : p ≤ l.length) 
    (hb : Blk w tp 114 #[.func (.func 78) #[.pointer (some ⟨g, 0, none⟩)] #[]]) :
    Calls Tryd.prog 81 #[.pointer (some ⟨tp, 0, none⟩)] w (RepE w g q cap l d ((signS l p).map fun x => (.mk 3 x.1 ⟨#[]⟩ [], ⟨x.2, t, i⟩))) := by
  obtain ⟨r, hr⟩ : ∃ r, signS l p = r := ⟨_, rfl⟩
  have H := Lib.hid h
  have c0 := hb.cell 0
  simp only [List.getElem?_toArray, List.getElem?_cons_zero, List.getElem?_cons_succ] at c0
  have cP := fun W (hE : Ext w W) => signed_any W g q cap l p t i (h.ext hE) hp
  rw [hr] at cP ⊢
  have hlt := hb.lt
  have hne : ¬ tp = w.heap.size := by omega
  clear hr h hb
  go_enter Tryd.func81, Tryd.ntmps81
  go_wp2_with fail
  refine (cP _ ((Ext.refl w).alloc _)).mono ?_
  intro e w1 hs
  cases r with
  | error x =>
    obtain ⟨rfl, o2⟩ := hs
    go_wp2_with fail
    exact ⟨rfl, RepE.err rfl ⟨rfl, (Only.refl g w).alloc _ |>.trans o2⟩⟩
  | ok x =>
    obtain ⟨rfl, i2, o2⟩ := hs
    have hg := H.out.lt
    have B1 : Blk w1 w.heap.size 41 #[.int .i64 0, .int .i64 0, .string ⟨#[]⟩, .slice none 0 0] := (Blk.new w _ _).only o2 (by omega)
    have b0 := B1.cell 0
    have b1 := B1.cell 1
    have b2 := B1.cell 2
    have b3 := B1.cell 3
    have z0 := B1.frozen 0
    have z1 := B1.frozen 1
    have z2 := B1.frozen 2
    have z3 := B1.frozen 3
    simp only [List.getElem?_toArray, List.getElem?_cons_zero, List.getElem?_cons_succ] at b0 b1 b2 b3
    have HI := Lib.hid i2
    have HO := Lib.hid (((Only.refl g w).alloc _).trans o2)
    have HB := Lib.hid B1
    clear i2 o2 B1 cP c0
    go_wp2_with fail
    have R := rep_put H.out HI.out HO.out (Nat.le_refl _) HB.out (.int .i64 3) (.int .i64 x.1) (.string ⟨#[]⟩) (.slice none 0 0)
    generalize (((w1.setCell { block := w.heap.size, off := 0 } (Value.int IntKind.i64 3)).setCell { block := w.heap.size, off := 1 } (Value.int IntKind.i64 x.1)).setCell { block := w.heap.size, off := 2 } (Value.string ⟨#[]⟩)).setCell { block := w.heap.size, off := 3 } (Value.slice none 0 0) = w4 at R ⊢
    obtain ⟨I4, O4, B4⟩ := R
    have e0 := B4.cell 0
    have e1 := B4.cell 1
    have e2 := B4.cell 2
    have e3 := B4.cell 3
    simp only [List.getElem?_toArray, List.getElem?_cons_zero, List.getElem?_cons_succ] at e0 e1 e2 e3
    exact bodyPost_ret (v := .agg #[.int .i64 3, .int .i64 x.1, .string ⟨#[]⟩, .slice none 0 0]) (by simp [results, Tryd.results81, go_sem, e0, e1, e2, e3]) rfl (RepE.ok rfl ⟨_, rfl, ⟨_, rfl, nil_list _ _ _⟩, I4, O4⟩)
end Go.Proofs.YtopdgmchkoaeeaaDoor
