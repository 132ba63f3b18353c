/- Encode and Check. -/
import Derived.Test.YtopdgmchkoaeeaaDoorRtN
import Derived.Test.YtopdgmchkoaeeaaDoorRtA
namespace Go.Proofs.YtopdgmchkoaeeaaDoor
open Go.RowKit
set_option linter.unusedVariables false
set_option linter.unusedSimpArgs false
attribute [local go_sem ↓] Go.wp_at_zero Go.wp_at_succ

def repOkB (x : Rep) : Bool := layOk 100 x 1048576 65536
theorem repOk_iff (x : Rep) : repOkB x = true ↔ repOk x := by simp [repOkB, layOk, repOk, and_assoc]
/-- What Encode tells. -/
def EncE (w : World) (x : Rep) (e : Ending) (w' : World) : Prop :=
  Ext w w' ∧ (if repOkB x = true then ∃ v, e = .returned (.tuple #[v, .int .i64 0]) ∧ BytesV w.heap.size w' v (encR x) else e = .returned (.tuple #[.slice none 0 0, .int .i64 2]))
set_option maxRecDepth 100000 in
theorem estrike_err (be bx : Nat) (c : Int) (v : Value) (u : FrameMode) (w : World) (hc : ¬ c = 0) (h1 : w.cell? ⟨be, 0, none⟩ = some (.int .i64 c)) (hx : w.cell? ⟨bx, 0, none⟩ = some v) (hz : w.frozen? ⟨bx, 0, none⟩ = false) (hv : ∃ q m c, v = .slice q m c) :
    CallsD Tryd.prog 53 #[.pointer (some ⟨be, 0, none⟩), .pointer (some ⟨bx, 0, none⟩)] u w fun e u' w' => u' = u ∧ e = .returned (.tuple #[]) ∧ w' = w.setCell ⟨bx, 0, none⟩ (.slice none 0 0) := by
  have h0 : (c == 0) = false := by simpa using hc
  have h0' : (c != 0) = true := by simpa using hc
  obtain ⟨q, m, c2, rfl⟩ := hv
  go_enter_d Tryd.func53, Tryd.ntmps53
  go_wp2_with fail
  go_end0
  exact ⟨rfl, rfl⟩
theorem estrike_ok (be bx : Nat) (u : FrameMode) (w : World) (h1 : w.cell? ⟨be, 0, none⟩ = some (.int .i64 0)) :
    CallsD Tryd.prog 53 #[.pointer (some ⟨be, 0, none⟩), .pointer (some ⟨bx, 0, none⟩)] u w fun e u' w' => u' = u ∧ e = .returned (.tuple #[]) ∧ w' = w := by
  go_enter_d Tryd.func53, Tryd.ntmps53
  go_wp2_with fail
  go_end0
  exact ⟨rfl, rfl⟩
/-- The two answers of Encode, in blocks of their own. -/
structure FacesE (w : World) (B : Nat) (v : Value) (c : Int) : Prop where
  b : Blk w B 25 #[v]
  e : Blk w (B + 1) 26 #[.int .i64 c]
set_option maxRecDepth 100000 in
set_option maxHeartbeats 1000000 in
theorem enc_door (w w' : World) (B : Nat) (v : Value) (c : Int) (hc : ¬ c = 0) (hv : ∃ q m c, v = .slice q m c) (hF : FacesE w' B v 0) (he : Ext w w') (hB : w.heap.size ≤ B) (R : Ending → World → Prop)
    (hR : ∀ w'', Ext w w'' → R (.returned (.tuple #[.slice none 0 0, .int .i64 c])) w'') (x0 x1 x4 x5 x6 x7 x8 x9 x10 x11 x12 x13 x14 : Value) :
    Leaves Tryd.prog Tryd.f27 #[x0, x1, .pointer (some ⟨B, 0, none⟩), .pointer (some ⟨B + 1, 0, none⟩), x4, x5, x6, x7, x8, x9, x10, x11, x12, x13, x14] R
      [{ target := Target.fn (Fn.func 42) #[], args := #[.pointer (some ⟨B + 1, 0, none⟩)] },
       { target := Target.fn (Fn.func 53) #[.pointer (some ⟨B + 1, 0, none⟩), .pointer (some ⟨B, 0, none⟩)], args := #[] }] (.panicking [{ v := failV c, recovered := false }]) w' := by
  have e0 := hF.e.cell 0
  have ez := hF.e.frozen 0
  simp only [List.getElem?_toArray, List.getElem?_cons_zero, List.getElem?_cons_succ] at e0
  refine leaves_cons (f := 42) (args := #[.pointer (some ⟨B + 1, 0, none⟩)]) (by simp) (by simp [go_sem]) ?_
  refine (caught_panic c 0 (B + 1) [] w' e0 ez).mono ?_
  rintro e u' w1 ⟨rfl, rfl, rfl⟩
  have e1 : Ext w ((w'.setCell ⟨B + 1, 0, none⟩ (.int .i64 c)).alloc (.cells #[.int .i64 c] 107)) := (he.setCell (by show w.heap.size ≤ B + 1; omega) _).alloc _
  have le : Blk ((w'.setCell ⟨B + 1, 0, none⟩ (.int .i64 c)).alloc (.cells #[.int .i64 c] 107)) (B + 1) 26 #[.int .i64 c] := Blk.alloc (by simpa using hF.e.set_ 0 (.int .i64 c)) _
  have ll : Blk ((w'.setCell ⟨B + 1, 0, none⟩ (.int .i64 c)).alloc (.cells #[.int .i64 c] 107)) B 25 #[v] := (hF.b.far (by show ¬ B = B + 1; omega) _).alloc _
  generalize (w'.setCell ⟨B + 1, 0, none⟩ (.int .i64 c)).alloc (.cells #[.int .i64 c] 107) = w2 at e1 le ll ⊢
  show Leaves _ _ _ _ _ (settle _) w2
  have hs : settle (.panicking [{ v := failV c, recovered := true }]) = .returning := rfl
  rw [hs]
  refine leaves_cons (f := 53) (args := #[.pointer (some ⟨B + 1, 0, none⟩), .pointer (some ⟨B, 0, none⟩)]) (by simp) (by simp [go_sem]) ?_
  refine (estrike_err (B + 1) B c v .returning w2 hc (le.cell 0) (ll.cell 0) (ll.frozen 0) hv).mono ?_
  rintro e u' w3 ⟨rfl, rfl, rfl⟩
  have e3 : Ext w (w2.setCell ⟨B, 0, none⟩ (.slice none 0 0)) := e1.setCell hB _
  have me : Blk (w2.setCell ⟨B, 0, none⟩ (.slice none 0 0)) (B + 1) 26 #[.int .i64 c] := le.far (by show ¬ B + 1 = B; omega) _
  have ml : Blk (w2.setCell ⟨B, 0, none⟩ (.slice none 0 0)) B 25 #[.slice none 0 0] := by simpa using ll.set_ 0 (.slice none 0 0)
  generalize w2.setCell ⟨B, 0, none⟩ (.slice none 0 0) = w4 at e3 me ml ⊢
  have d1 := me.cell 0
  have d2 := ml.cell 0
  simp only [List.getElem?_toArray, List.getElem?_cons_zero, List.getElem?_cons_succ] at d1 d2
  have hR' := hR w4 e3
  simp [Leaves, settle, results, Tryd.results27, go_sem, d1, d2]
  exact hR'
set_option maxRecDepth 100000 in
set_option maxHeartbeats 1000000 in
theorem enc_done (w' : World) (B : Nat) (v : Value) (hF : FacesE w' B v 0) (hv : ∃ q m c, v = .slice q m c) (R : Ending → World → Prop)
    (hR : R (.returned (.tuple #[v, .int .i64 0])) w') (x0 x1 x4 x5 x6 x7 x8 x9 x10 x11 x12 x13 x14 : Value) :
    Leaves Tryd.prog Tryd.f27 #[x0, x1, .pointer (some ⟨B, 0, none⟩), .pointer (some ⟨B + 1, 0, none⟩), x4, x5, x6, x7, x8, x9, x10, x11, x12, x13, x14] R
      [{ target := Target.fn (Fn.func 42) #[], args := #[.pointer (some ⟨B + 1, 0, none⟩)] },
       { target := Target.fn (Fn.func 53) #[.pointer (some ⟨B + 1, 0, none⟩), .pointer (some ⟨B, 0, none⟩)], args := #[] }] .returning w' := by
  have e0 := hF.e.cell 0
  have l0 := hF.b.cell 0
  simp only [List.getElem?_toArray, List.getElem?_cons_zero, List.getElem?_cons_succ] at e0 l0
  obtain ⟨q, m, c2, rfl⟩ := hv
  refine leaves_cons (f := 42) (args := #[.pointer (some ⟨B + 1, 0, none⟩)]) (by simp) (by simp [go_sem]) ?_
  refine (caught_idle (B + 1) w').mono ?_
  rintro e u' w1 ⟨rfl, rfl, rfl⟩
  show Leaves _ _ _ _ _ (settle _) w1
  have hs : settle .returning = .returning := rfl
  rw [hs]
  refine leaves_cons (f := 53) (args := #[.pointer (some ⟨B + 1, 0, none⟩), .pointer (some ⟨B, 0, none⟩)]) (by simp) (by simp [go_sem]) ?_
  refine (estrike_ok (B + 1) B .returning w1 e0).mono ?_
  rintro e u' w3 ⟨rfl, rfl, rfl⟩
  simp [Leaves, settle, results, Tryd.results27, go_sem, e0, l0]
  exact hR
theorem EncE.no {w w' : World} {x : Rep} {e : Ending} (h : repOkB x = false) (he : e = .returned (.tuple #[.slice none 0 0, .int .i64 2])) (hw : Ext w w') : EncE w x e w' :=
  ⟨hw, by rw [if_neg (by rw [h]; decide)]; exact he⟩
theorem EncE.yes {w w' : World} {x : Rep} {e : Ending} (h : repOkB x = true) (he : ∃ v, e = .returned (.tuple #[v, .int .i64 0]) ∧ BytesV w.heap.size w' v (encR x)) (hw : Ext w w') : EncE w x e w' :=
  ⟨hw, by rw [if_pos h]; exact he⟩
theorem BytesV.far {base : Nat} {w : World} {v : Value} {l : List UInt8} (h : BytesV base w v l) {p : Addr} (hp : p.block < base) (u : Value) : BytesV base (w.setCell p u) v l := by
  obtain ⟨q, c, e, hb, hc⟩ := h
  refine ⟨q, c, e, ⟨fun k hk => ?_, hb.len, hb.slot.imp id (fun ⟨b, o, e, h⟩ => ⟨b, o, e, by rw [World.size_setCell]; exact h⟩), hb.room⟩, hc⟩
  obtain ⟨b, o, e', h'⟩ := hb.bytes k hk
  refine ⟨b, o, e', ?_⟩
  have := hc b o e'
  rw [World.cell?_setCell_other _ _ _ _ (fun e => by have := congrArg Addr.block e; simp only at this; omega)]
  exact h'
/-- The world in which lay is called first. -/
def encW (w : World) (x : Rep) (lv : Value) : World :=
  (((((((w.alloc (.cells #[.int .i64 x.k, .int .i64 x.n, .string x.s, lv] 41)).alloc (.cells #[.slice none 0 0] 25)).alloc (.cells #[.int .i64 0] 26)).alloc (.cells #[.pointer none, .slice none 0 0] 73)).alloc (.cells #[.int .i64 1048576] 3)).alloc (.cells #[.int .i64 65536] 3)).alloc
    (.cells #[.func (.func 54) #[] #[.pointer (some ⟨w.heap.size + 1 + 1 + 1 + 1, 0, none⟩), .pointer (some ⟨w.heap.size + 1 + 1 + 1 + 1 + 1, 0, none⟩), .pointer (some ⟨w.heap.size + 1 + 1 + 1, 0, none⟩), .pointer (some ⟨w.heap.size + 1 + 1 + 1 + 1 + 1 + 1, 0, none⟩)]] 97))
theorem enc_start (w : World) (x : Rep) (lv : Value) (hpw : Pow w) :
    EncAt (encW w x lv) (w.heap.size + 1 + 1 + 1) (w.heap.size + 1 + 1 + 1 + 1) (w.heap.size + 1 + 1 + 1 + 1 + 1) (w.heap.size + 1 + 1 + 1) (w.heap.size + 1 + 1 + 1 + 1 + 1 + 1) 1048576 65536 [] ∧
    FacesE (encW w x lv) (w.heap.size + 1) (.slice none 0 0) 0 ∧ Ext w (encW w x lv) := by
  have hg := hpw.lt
  unfold encW
  have s3 : (((w.alloc (.cells #[.int .i64 x.k, .int .i64 x.n, .string x.s, lv] 41)).alloc (.cells #[.slice none 0 0] 25)).alloc (.cells #[.int .i64 0] 26)).heap.size = w.heap.size + 1 + 1 + 1 := by rw [size_alloc, size_alloc, size_alloc]
  have E3 : Ext w (((w.alloc (.cells #[.int .i64 x.k, .int .i64 x.n, .string x.s, lv] 41)).alloc (.cells #[.slice none 0 0] 25)).alloc (.cells #[.int .i64 0] 26)) := (((Ext.refl w).alloc _).alloc _).alloc _
  have fb : Blk (((w.alloc (.cells #[.int .i64 x.k, .int .i64 x.n, .string x.s, lv] 41)).alloc (.cells #[.slice none 0 0] 25)).alloc (.cells #[.int .i64 0] 26)) (w.heap.size + 1) 25 #[.slice none 0 0] := (new_at (by rw [size_alloc]) _ _).alloc _
  have fe : Blk (((w.alloc (.cells #[.int .i64 x.k, .int .i64 x.n, .string x.s, lv] 41)).alloc (.cells #[.slice none 0 0] 25)).alloc (.cells #[.int .i64 0] 26)) (w.heap.size + 1 + 1) 26 #[.int .i64 0] := new_at (by rw [size_alloc, size_alloc]) _ _
  generalize ((w.alloc (.cells #[.int .i64 x.k, .int .i64 x.n, .string x.s, lv] 41)).alloc (.cells #[.slice none 0 0] 25)).alloc (.cells #[.int .i64 0] 26) = w3 at s3 E3 fb fe ⊢
  have b4 : BldAt (w.heap.size + 1 + 1 + 1) (w.heap.size + 1 + 1 + 1) [] (w3.alloc (.cells #[.pointer none, .slice none 0 0] 73)) := by rw [← s3]; exact BldAt.new w3
  have X : ∀ o p r, Ext (w3.alloc (.cells #[.pointer none, .slice none 0 0] 73)) ((((w3.alloc (.cells #[.pointer none, .slice none 0 0] 73)).alloc o).alloc p).alloc r) := fun o p r => (((Ext.refl _).alloc o).alloc p).alloc r
  refine ⟨⟨b4.ext (X _ _ _), ((new_at (by rw [size_alloc, s3]) _ _).alloc _).alloc _, (new_at (by rw [size_alloc, size_alloc, s3]) _ _).alloc _, new_at (by rw [size_alloc, size_alloc, size_alloc, s3]) _ _, ⟨by omega, by omega, Nat.le_refl _, by omega, by omega⟩,
    by rw [size_alloc, size_alloc, size_alloc, size_alloc, s3]; omega, (((hpw.ext E3).alloc _).ext (X _ _ _)), by omega⟩, ⟨(fb.alloc _).ext (X _ _ _), (fe.alloc _).ext (X _ _ _)⟩, (E3.alloc _).trans (X _ _ _)⟩
set_option maxRecDepth 100000 in
set_option maxHeartbeats 4000000 in
theorem encode_any (w : World) (x : Rep) (q : Option Addr) (c D : Nat) (hv : ListAt (fun b => b < w.heap.size) w D (.slice q x.l.length c) x.l) (h6 : i64R x) (hpw : Pow w) :
    Calls Tryd.prog 27 #[.agg #[.int .i64 x.k, .int .i64 x.n, .string x.s, .slice q x.l.length c]] w (EncE w x) := by
  obtain ⟨he, hF, hE⟩ := enc_start w x (.slice q x.l.length c) hpw
  have HE := Lib.hid he
  have HF := Lib.hid hF
  have HX := Lib.hid hE
  have hL := lay_all 100 (by omega) (encW w x (.slice q x.l.length c)) 1048576 65536 [] x q c D he (by omega) (by omega) (by simp) ((hv.ext hE).keep (fun _ _ _ _ h => h) (fun b _ hb => by omega)) h6
  have HL := Lib.hid hL
  have H6 := Lib.hid h6
  have hmf : ∀ (fn : Fn) (first cap : Array Value) (w : World), (Instr.makeFunc fn first cap).run Tryd.prog w = .ok (.func fn first cap) w := fun _ _ _ _ => rfl
  have kc := fun (W : World) (s : ByteArray) => Lib.run_convert_string_bytes (P := Tryd.prog) W 9 25 5 s Tryd.underlying9 Tryd.underlying25 Tryd.underlying5
  clear hv h6 hpw he hF hE hL
  go_enter_defers Tryd.func27, Tryd.ntmps27
  go_wp2_with fail
  refine HL.out.mono ?_
  intro e w1 hs
  obtain ⟨hb, hk, hif⟩ := hs
  have HX1 := Lib.hid (HX.out.below hb (by omega))
  have HF1 : Hid (FacesE w1 (w.heap.size + 1) (.slice none 0 0) 0) := Lib.hid ⟨hk _ _ _ HF.out.b (by decide) (by decide) (by decide), hk _ _ _ HF.out.e (by decide) (by decide) (by decide)⟩
  clear hb hk
  cases hok : layOk 100 x 1048576 65536 with
  | false =>
    rw [if_neg (by rw [hok]; decide)] at hif
    obtain rfl := hif
    have HO : Hid (repOkB x = false) := Lib.hid hok
    clear hok
    go_wp2_with fail
    exact enc_door w w1 (w.heap.size + 1) _ 2 (by decide) ⟨_, _, _, rfl⟩ HF1.out HX1.out (by omega) _ (fun w'' h'' => EncE.no HO.out rfl h'') _ _ _ _ _ _ _ _ _ _ _ _ _
  | true =>
    rw [if_pos hok] at hif
    obtain ⟨rfl, henc⟩ := hif
    have HO : Hid (repOkB x = true) := Lib.hid hok
    have HC := Lib.hid henc
    clear hok henc HL HE HF HX
    go_wp2_with fail
    refine (hstring _ _ _ _ HC.out.bld HC.out.base).mono ?_
    rintro e w2 ⟨rfl, b2⟩
    rw [List.nil_append]
    have HX2 := Lib.hid (HX1.out.below b2 (by omega))
    have f1 : Blk w2 (w.heap.size + 1) 25 #[.slice none 0 0] := (b2.block _ (by omega)).trans HF1.out.b
    have f2 : Blk w2 (w.heap.size + 1 + 1) 26 #[.int .i64 0] := (b2.block _ (by omega)).trans HF1.out.e
    have E3 := bytes_ext w2 5 ⟨(encR x).toArray⟩
    have f1' := f1.ext E3
    have f2' := f2.ext E3
    have p1 := f1'.cell 0
    have p2 := f2'.cell 0
    have z1 := f1'.frozen 0
    have z2 := f2'.frozen 0
    simp only [List.getElem?_toArray, List.getElem?_cons_zero, List.getElem?_cons_succ] at p1 p2
    have HF2 := Lib.hid f1'
    have HF3 := Lib.hid f2'
    have HX3 := Lib.hid (HX2.out.trans E3)
    have HSZ : Hid (w.heap.size + 1 + 1 < w2.heap.size) := Lib.hid f2.lt
    clear b2 HF1 HX1 HC f1 f2 f1' f2' E3
    have hlen : (encR x).length ≤ 9223372036854775807 := by
      have h1 := (repOk_iff x).1 HO.out
      have h2 := encR_len x H6.out h1.2.1 h1.2.2
      have h3 := h1.2.1
      have h4 := h1.2.2
      omega
    have HLEN := Lib.hid hlen
    clear hlen
    go_wp2_with fail
    have hv := bytes_conv w2 ⟨(encR x).toArray⟩ HLEN.out
    have hv1 := (hv.far (p := ⟨w.heap.size + 1, 0, none⟩) (by show w.heap.size + 1 < _; have h5 := HSZ.out; omega) (.slice (some ⟨w2.heap.size, 0, none⟩) (encR x).length (grownCap w2 (encR x).length 0 5))).far (p := ⟨w.heap.size + 1 + 1, 0, none⟩) (by show w.heap.size + 1 + 1 < _; have h5 := HSZ.out; omega) (.int .i64 0)
    have b1 : Blk (((Lib.bytesWorld w2 5 ⟨(encR x).toArray⟩).setCell ⟨w.heap.size + 1, 0, none⟩ (.slice (some ⟨w2.heap.size, 0, none⟩) (encR x).length (grownCap w2 (encR x).length 0 5))).setCell ⟨w.heap.size + 1 + 1, 0, none⟩ (.int .i64 0)) (w.heap.size + 1) 25 #[.slice (some ⟨w2.heap.size, 0, none⟩) (encR x).length (grownCap w2 (encR x).length 0 5)] :=
      Blk.far (by simpa using HF2.out.set_ 0 (.slice (some ⟨w2.heap.size, 0, none⟩) (encR x).length (grownCap w2 (encR x).length 0 5))) (by show w.heap.size + 1 ≠ w.heap.size + 1 + 1; omega) _
    have b2 : Blk (((Lib.bytesWorld w2 5 ⟨(encR x).toArray⟩).setCell ⟨w.heap.size + 1, 0, none⟩ (.slice (some ⟨w2.heap.size, 0, none⟩) (encR x).length (grownCap w2 (encR x).length 0 5))).setCell ⟨w.heap.size + 1 + 1, 0, none⟩ (.int .i64 0)) (w.heap.size + 1 + 1) 26 #[.int .i64 0] := by
      simpa using (HF3.out.far (p := ⟨w.heap.size + 1, 0, none⟩) (by show w.heap.size + 1 + 1 ≠ w.heap.size + 1; omega) (.slice (some ⟨w2.heap.size, 0, none⟩) (encR x).length (grownCap w2 (encR x).length 0 5))).set_ 0 (.int .i64 0)
    have EX := (HX3.out.setCell (p := ⟨w.heap.size + 1, 0, none⟩) (by show w.heap.size ≤ w.heap.size + 1; omega) (.slice (some ⟨w2.heap.size, 0, none⟩) (encR x).length (grownCap w2 (encR x).length 0 5))).setCell (p := ⟨w.heap.size + 1 + 1, 0, none⟩) (by show w.heap.size ≤ w.heap.size + 1 + 1; omega) (.int .i64 0)
    refine enc_done _ (w.heap.size + 1) _ ⟨b1, b2⟩ ⟨_, _, _, rfl⟩ _ (EncE.yes HO.out ⟨_, rfl, ?_⟩ EX) _ _ _ _ _ _ _ _ _ _ _ _ _
    obtain ⟨q', c', e', hb, hc⟩ := hv1
    exact ⟨q', c', e', hb, fun b o e => Nat.le_trans HX2.out.le (hc b o e)⟩
/-- What Check tells. -/
def ChkE (w : World) (x : Rep) (e : Ending) (w' : World) : Prop := e = .returned (.int .i64 (if repOkB x = true then 0 else 2)) ∧ Ext w w'
set_option maxRecDepth 100000 in
theorem check_any (w : World) (x : Rep) (q : Option Addr) (c D : Nat) (hv : ListAt (fun b => b < w.heap.size) w D (.slice q x.l.length c) x.l) (h6 : i64R x) (hpw : Pow w) :
    Calls Tryd.prog 30 #[.agg #[.int .i64 x.k, .int .i64 x.n, .string x.s, .slice q x.l.length c]] w (ChkE w x) := by
  have E1 := (Ext.refl w).alloc (.cells #[.int .i64 x.k, .int .i64 x.n, .string x.s, .slice q x.l.length c] 41)
  have hC := encode_any (w.alloc (.cells #[.int .i64 x.k, .int .i64 x.n, .string x.s, .slice q x.l.length c] 41)) x q c D ((hv.ext E1).keep (fun _ _ _ _ h => h) (fun b _ hb => Nat.lt_of_lt_of_le hb E1.le)) h6 (hpw.ext E1)
  have HE := Lib.hid E1
  have HC := Lib.hid hC
  clear hv h6 hpw E1 hC
  go_enter Tryd.func30, Tryd.ntmps30
  go_wp2_with fail
  refine HC.out.mono ?_
  intro e w1 hs
  obtain ⟨e1, hif⟩ := hs
  have H1 := Lib.hid (HE.out.trans e1)
  clear e1 HC
  cases ho : repOkB x with
  | false =>
    rw [if_neg (by rw [ho]; decide)] at hif
    obtain rfl := hif
    have HO := Lib.hid ho
    clear ho
    go_wp2_with fail
    go_ret
    exact ⟨by rw [if_neg (by rw [HO.out]; decide)]; rfl, H1.out⟩
  | true =>
    rw [if_pos ho] at hif
    obtain ⟨v, rfl, hv⟩ := hif
    have HO := Lib.hid ho
    clear ho hv
    go_wp2_with fail
    go_ret
    exact ⟨by rw [if_pos HO.out]; rfl, H1.out⟩
end Go.Proofs.YtopdgmchkoaeeaaDoor
