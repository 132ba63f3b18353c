/- A reply that is decoded: the walk of Decode. -/
import Derived.Test.YtopdgmchkoaeeaaDoorRsO
import Derived.Deep.RegionHeld3
namespace Go.Proofs.YtopdgmchkoaeeaaDoor
open Go.RowKit
set_option linter.unusedVariables false
set_option linter.unusedSimpArgs false
attribute [local go_sem ↓] Go.wp_at_zero Go.wp_at_succ

def zeroRep : Value := .agg #[.int .i64 0, .int .i64 0, .string ⟨#[]⟩, .slice none 0 0]
set_option maxRecDepth 100000 in
set_option maxHeartbeats 1000000 in
theorem dstrike_err (be bx bn : Nat) (c : Int) (n : Int) (a0 a1 a2 a3 : Value) (u : FrameMode) (w : World) (hc : ¬ c = 0) (h1 : w.cell? ⟨be, 0, none⟩ = some (.int .i64 c)) (hx : Blk w bx 41 #[a0, a1, a2, a3]) (hn : Blk w bn 3 #[.int .i64 n]) (hne : ¬ bn = bx)
    (hs : ∃ k n s q m c, a0 = .int .i64 k ∧ a1 = .int .i64 n ∧ a2 = .string s ∧ a3 = .slice q m c) :
    CallsD Tryd.prog 49 #[.pointer (some ⟨be, 0, none⟩), .pointer (some ⟨bx, 0, none⟩), .pointer (some ⟨bn, 0, none⟩)] u w fun e u' w' => u' = u ∧ e = .returned (.tuple #[]) ∧
      w' = ((((w.setCell ⟨bx, 0, none⟩ (.int .i64 0)).setCell ⟨bx, 1, none⟩ (.int .i64 0)).setCell ⟨bx, 2, none⟩ (.string ⟨#[]⟩)).setCell ⟨bx, 3, none⟩ (.slice none 0 0)).setCell ⟨bn, 0, none⟩ (.int .i64 0) := by
  have hz : (c == 0) = false := by simpa using hc
  have hz' : (c != 0) = true := by simpa using hc
  obtain ⟨k, m, s, q, m2, c2, rfl, rfl, rfl, rfl⟩ := hs
  have x0 := hx.cell 0
  have x1 := hx.cell 1
  have x2 := hx.cell 2
  have x3 := hx.cell 3
  have n0 := hn.cell 0
  have y0 := hx.frozen 0
  have y1 := hx.frozen 1
  have y2 := hx.frozen 2
  have y3 := hx.frozen 3
  have z0 := hn.frozen 0
  simp only [List.getElem?_toArray, List.getElem?_cons_zero, List.getElem?_cons_succ] at x0 x1 x2 x3 n0
  have hne' : ¬ bx = bn := fun h => hne h.symm
  clear hx hn
  go_enter_d Tryd.func49, Tryd.ntmps49
  go_wp2_with fail
  go_end0
  exact ⟨rfl, rfl⟩
theorem dstrike_ok (be bl bn : Nat) (u : FrameMode) (w : World) (h1 : w.cell? ⟨be, 0, none⟩ = some (.int .i64 0)) :
    CallsD Tryd.prog 49 #[.pointer (some ⟨be, 0, none⟩), .pointer (some ⟨bl, 0, none⟩), .pointer (some ⟨bn, 0, none⟩)] u w fun e u' w' => u' = u ∧ e = .returned (.tuple #[]) ∧ w' = w := by
  go_enter_d Tryd.func49, Tryd.ntmps49
  go_wp2_with fail
  go_end0
  exact ⟨rfl, rfl⟩
/-- The three answers of Decode, in blocks of their own. -/
structure FacesD (w : World) (B : Nat) (a0 a1 a2 a3 : Value) (n c : Int) : Prop where
  x : Blk w B 41 #[a0, a1, a2, a3]
  n : Blk w (B + 1) 3 #[.int .i64 n]
  e : Blk w (B + 1 + 1) 26 #[.int .i64 c]
theorem FacesD.ext {w w' : World} {B : Nat} {a0 a1 a2 a3 : Value} {n c : Int} (h : FacesD w B a0 a1 a2 a3 n c) (he : Ext w w') : FacesD w' B a0 a1 a2 a3 n c := ⟨h.x.ext he, h.n.ext he, h.e.ext he⟩
theorem FacesD.only {w w' : World} {B g : Nat} {a0 a1 a2 a3 : Value} {n c : Int} (h : FacesD w B a0 a1 a2 a3 n c) (he : Only g w w') (hg : B + 1 + 1 < g) : FacesD w' B a0 a1 a2 a3 n c := ⟨h.x.only he (by omega), h.n.only he (by omega), h.e.only he (by omega)⟩
set_option maxRecDepth 100000 in
set_option maxHeartbeats 1000000 in
theorem dec_door (w w' : World) (B : Nat) (n c : Int) (hc : ¬ c = 0) (hF : FacesD w' B (.int .i64 0) (.int .i64 0) (.string ⟨#[]⟩) (.slice none 0 0) n 0) (he : Ext w w') (hB : w.heap.size ≤ B) (R : Ending → World → Prop)
    (hR : ∀ w'', Ext w w'' → R (.returned (.tuple #[zeroRep, .int .i64 0, .int .i64 c])) w'') (x0 x1 x5 x6 x7 x8 x9 x10 x11 x12 x13 x14 x15 x16 : Value) :
    Leaves Tryd.prog Tryd.f20 #[x0, x1, .pointer (some ⟨B, 0, none⟩), .pointer (some ⟨B + 1, 0, none⟩), .pointer (some ⟨B + 1 + 1, 0, none⟩), x5, x6, x7, x8, x9, x10, x11, x12, x13, x14, x15, x16] R
      [{ target := Target.fn (Fn.func 42) #[], args := #[.pointer (some ⟨B + 1 + 1, 0, none⟩)] },
       { target := Target.fn (Fn.func 49) #[.pointer (some ⟨B + 1 + 1, 0, none⟩), .pointer (some ⟨B, 0, none⟩), .pointer (some ⟨B + 1, 0, none⟩)], args := #[] }] (.panicking [{ v := failV c, recovered := false }]) w' := by
  have e0 := hF.e.cell 0
  have ez := hF.e.frozen 0
  simp only [List.getElem?_toArray, List.getElem?_cons_zero, List.getElem?_cons_succ] at e0
  refine leaves_cons (f := 42) (args := #[.pointer (some ⟨B + 1 + 1, 0, none⟩)]) (by simp) (by simp [go_sem]) ?_
  refine (caught_panic c 0 (B + 1 + 1) [] w' e0 ez).mono ?_
  rintro e u' w1 ⟨rfl, rfl, rfl⟩
  have e1 : Ext w ((w'.setCell ⟨B + 1 + 1, 0, none⟩ (.int .i64 c)).alloc (.cells #[.int .i64 c] 107)) := (he.setCell (by show w.heap.size ≤ B + 1 + 1; omega) _).alloc _
  have le : Blk ((w'.setCell ⟨B + 1 + 1, 0, none⟩ (.int .i64 c)).alloc (.cells #[.int .i64 c] 107)) (B + 1 + 1) 26 #[.int .i64 c] := Blk.alloc (by simpa using hF.e.set_ 0 (.int .i64 c)) _
  have ll : Blk ((w'.setCell ⟨B + 1 + 1, 0, none⟩ (.int .i64 c)).alloc (.cells #[.int .i64 c] 107)) B 41 #[.int .i64 0, .int .i64 0, .string ⟨#[]⟩, .slice none 0 0] := (hF.x.far (by show ¬ B = B + 1 + 1; omega) _).alloc _
  have ln : Blk ((w'.setCell ⟨B + 1 + 1, 0, none⟩ (.int .i64 c)).alloc (.cells #[.int .i64 c] 107)) (B + 1) 3 #[.int .i64 n] := (hF.n.far (by show ¬ B + 1 = B + 1 + 1; omega) _).alloc _
  generalize (w'.setCell ⟨B + 1 + 1, 0, none⟩ (.int .i64 c)).alloc (.cells #[.int .i64 c] 107) = w2 at e1 le ll ln ⊢
  show Leaves _ _ _ _ _ (settle _) w2
  have hs : settle (.panicking [{ v := failV c, recovered := true }]) = .returning := rfl
  rw [hs]
  refine leaves_cons (f := 49) (args := #[.pointer (some ⟨B + 1 + 1, 0, none⟩), .pointer (some ⟨B, 0, none⟩), .pointer (some ⟨B + 1, 0, none⟩)]) (by simp) (by simp [go_sem]) ?_
  refine (dstrike_err (B + 1 + 1) B (B + 1) c n _ _ _ _ .returning w2 hc (le.cell 0) ll ln (by omega) ⟨_, _, _, _, _, _, rfl, rfl, rfl, rfl⟩).mono ?_
  rintro e u' w3 ⟨rfl, rfl, rfl⟩
  have e3 : Ext w (((((w2.setCell ⟨B, 0, none⟩ (.int .i64 0)).setCell ⟨B, 1, none⟩ (.int .i64 0)).setCell ⟨B, 2, none⟩ (.string ⟨#[]⟩)).setCell ⟨B, 3, none⟩ (.slice none 0 0)).setCell ⟨B + 1, 0, none⟩ (.int .i64 0)) := ((((e1.setCell hB _).setCell hB _).setCell hB _).setCell hB _).setCell (by show w.heap.size ≤ B + 1; omega) _
  have me : Blk (((((w2.setCell ⟨B, 0, none⟩ (.int .i64 0)).setCell ⟨B, 1, none⟩ (.int .i64 0)).setCell ⟨B, 2, none⟩ (.string ⟨#[]⟩)).setCell ⟨B, 3, none⟩ (.slice none 0 0)).setCell ⟨B + 1, 0, none⟩ (.int .i64 0)) (B + 1 + 1) 26 #[.int .i64 c] :=
    ((((le.far (by show ¬ B + 1 + 1 = B; omega) _).far (by show ¬ B + 1 + 1 = B; omega) _).far (by show ¬ B + 1 + 1 = B; omega) _).far (by show ¬ B + 1 + 1 = B; omega) _).far (by show ¬ B + 1 + 1 = B + 1; omega) _
  have ml : Blk (((((w2.setCell ⟨B, 0, none⟩ (.int .i64 0)).setCell ⟨B, 1, none⟩ (.int .i64 0)).setCell ⟨B, 2, none⟩ (.string ⟨#[]⟩)).setCell ⟨B, 3, none⟩ (.slice none 0 0)).setCell ⟨B + 1, 0, none⟩ (.int .i64 0)) B 41 #[.int .i64 0, .int .i64 0, .string ⟨#[]⟩, .slice none 0 0] :=
    (put4 ll _ _ _ _).far (by show ¬ B = B + 1; omega) _
  have mn : Blk (((((w2.setCell ⟨B, 0, none⟩ (.int .i64 0)).setCell ⟨B, 1, none⟩ (.int .i64 0)).setCell ⟨B, 2, none⟩ (.string ⟨#[]⟩)).setCell ⟨B, 3, none⟩ (.slice none 0 0)).setCell ⟨B + 1, 0, none⟩ (.int .i64 0)) (B + 1) 3 #[.int .i64 0] := by
    simpa using ((((ln.far (p := ⟨B, 0, none⟩) (by show ¬ B + 1 = B; omega) (.int .i64 0)).far (p := ⟨B, 1, none⟩) (by show ¬ B + 1 = B; omega) (.int .i64 0)).far (p := ⟨B, 2, none⟩) (by show ¬ B + 1 = B; omega) (.string ⟨#[]⟩)).far (p := ⟨B, 3, none⟩) (by show ¬ B + 1 = B; omega) (.slice none 0 0)).set_ 0 (.int .i64 0)
  generalize ((((w2.setCell ⟨B, 0, none⟩ (.int .i64 0)).setCell ⟨B, 1, none⟩ (.int .i64 0)).setCell ⟨B, 2, none⟩ (.string ⟨#[]⟩)).setCell ⟨B, 3, none⟩ (.slice none 0 0)).setCell ⟨B + 1, 0, none⟩ (.int .i64 0) = w4 at e3 me ml mn ⊢
  have d1 := me.cell 0
  have d2 := ml.cell 0
  have d3 := ml.cell 1
  have d4 := ml.cell 2
  have d5 := ml.cell 3
  have d6 := mn.cell 0
  simp only [List.getElem?_toArray, List.getElem?_cons_zero, List.getElem?_cons_succ] at d1 d2 d3 d4 d5 d6
  have hR' := hR w4 e3
  simp [Leaves, settle, results, Tryd.results20, go_sem, d1, d2, d3, d4, d5, d6]
  exact hR'
set_option maxRecDepth 100000 in
set_option maxHeartbeats 1000000 in
theorem dec_done (w' : World) (B : Nat) (a0 a1 a2 a3 : Value) (n : Int) (hF : FacesD w' B a0 a1 a2 a3 n 0) (hv : ∃ k n s q m c, a0 = .int .i64 k ∧ a1 = .int .i64 n ∧ a2 = .string s ∧ a3 = .slice q m c) (R : Ending → World → Prop)
    (hR : R (.returned (.tuple #[.agg #[a0, a1, a2, a3], .int .i64 n, .int .i64 0])) w') (x0 x1 x5 x6 x7 x8 x9 x10 x11 x12 x13 x14 x15 x16 : Value) :
    Leaves Tryd.prog Tryd.f20 #[x0, x1, .pointer (some ⟨B, 0, none⟩), .pointer (some ⟨B + 1, 0, none⟩), .pointer (some ⟨B + 1 + 1, 0, none⟩), x5, x6, x7, x8, x9, x10, x11, x12, x13, x14, x15, x16] R
      [{ target := Target.fn (Fn.func 42) #[], args := #[.pointer (some ⟨B + 1 + 1, 0, none⟩)] },
       { target := Target.fn (Fn.func 49) #[.pointer (some ⟨B + 1 + 1, 0, none⟩), .pointer (some ⟨B, 0, none⟩), .pointer (some ⟨B + 1, 0, none⟩)], args := #[] }] .returning w' := by
  have e0 := hF.e.cell 0
  have d2 := hF.x.cell 0
  have d3 := hF.x.cell 1
  have d4 := hF.x.cell 2
  have d5 := hF.x.cell 3
  have n0 := hF.n.cell 0
  simp only [List.getElem?_toArray, List.getElem?_cons_zero, List.getElem?_cons_succ] at e0 d2 d3 d4 d5 n0
  obtain ⟨k, m, s, q, m2, c2, rfl, rfl, rfl, rfl⟩ := hv
  refine leaves_cons (f := 42) (args := #[.pointer (some ⟨B + 1 + 1, 0, none⟩)]) (by simp) (by simp [go_sem]) ?_
  refine (caught_idle (B + 1 + 1) w').mono ?_
  rintro e u' w1 ⟨rfl, rfl, rfl⟩
  show Leaves _ _ _ _ _ (settle _) w1
  have hs : settle .returning = .returning := rfl
  rw [hs]
  refine leaves_cons (f := 49) (args := #[.pointer (some ⟨B + 1 + 1, 0, none⟩), .pointer (some ⟨B, 0, none⟩), .pointer (some ⟨B + 1, 0, none⟩)]) (by simp) (by simp [go_sem]) ?_
  refine (dstrike_ok (B + 1 + 1) B (B + 1) .returning w1 e0).mono ?_
  rintro e u' w3 ⟨rfl, rfl, rfl⟩
  simp [Leaves, settle, results, Tryd.results20, go_sem, e0, d2, d3, d4, d5, n0]
  exact hR

/-- What Decode tells. -/
def DecE (w : World) (r : Except Int (Rep × St)) (e : Ending) (w' : World) : Prop :=
  match r with
  | .ok x => ∃ v, e = .returned (.tuple #[v, .int .i64 (x.2.p : Int), .int .i64 0]) ∧ RepV (fun b => w.heap.size ≤ b) w' 100 v x.1 ∧ Ext w w'
  | .error c => e = .returned (.tuple #[zeroRep, .int .i64 0, .int .i64 c]) ∧ Ext w w'
theorem DecE.err {w w' : World} {r : Except Int (Rep × St)} {e : Ending} {c : Int} (hr : r = .error c) (he : e = .returned (.tuple #[zeroRep, .int .i64 0, .int .i64 c])) (h : Ext w w') : DecE w r e w' := by
  subst hr; exact ⟨he, h⟩
theorem DecE.ok {w w' : World} {r : Except Int (Rep × St)} {e : Ending} {x : Rep × St} (hr : r = .ok x) (h : ∃ v, e = .returned (.tuple #[v, .int .i64 (x.2.p : Int), .int .i64 0]) ∧ RepV (fun b => w.heap.size ≤ b) w' 100 v x.1 ∧ Ext w w') : DecE w r e w' := by
  subst hr; exact h
set_option maxRecDepth 100000 in
set_option maxHeartbeats 4000000 in
theorem decode_any (w : World) (q : Option Addr) (cap : Nat) (l : List UInt8) (h : BytesAt w q cap l) :
    Calls Tryd.prog 20 #[.slice q l.length cap] w (DecE w (decodeS l)) := by
  have H := Lib.hid h
  obtain ⟨r, hr⟩ : ∃ r, decodeS l = r := ⟨_, rfl⟩
  rw [hr]
  unfold decodeS at hr
  have HR := Lib.hid hr
  have hmf : ∀ (fn : Fn) (first cap : Array Value) (w : World), (Instr.makeFunc fn first cap).run Tryd.prog w = .ok (.func fn first cap) w := fun _ _ _ _ => rfl
  obtain ⟨B, hB⟩ : ∃ B, w.heap.size = B := ⟨_, rfl⟩
  have HB := Lib.hid hB
  have HE := Lib.hid (((((Ext.refl w).alloc (.cells #[.int .i64 0, .int .i64 0, .string ⟨#[]⟩, .slice none 0 0] 41)).alloc (.cells #[.int .i64 0] 3)).alloc (.cells #[.int .i64 0] 26)).alloc (.cells #[.slice q l.length cap, .int .i64 0, .int .i64 1048576, .int .i64 65536] 85))
  have HF : Hid (FacesD ((((w.alloc (.cells #[.int .i64 0, .int .i64 0, .string ⟨#[]⟩, .slice none 0 0] 41)).alloc (.cells #[.int .i64 0] 3)).alloc (.cells #[.int .i64 0] 26)).alloc (.cells #[.slice q l.length cap, .int .i64 0, .int .i64 1048576, .int .i64 65536] 85)) w.heap.size (.int .i64 0) (.int .i64 0) (.string ⟨#[]⟩) (.slice none 0 0) 0 0) :=
    Lib.hid ⟨(((Blk.new w _ _).alloc _).alloc _).alloc _, by
      have h1 : Blk ((w.alloc (.cells #[.int .i64 0, .int .i64 0, .string ⟨#[]⟩, .slice none 0 0] 41)).alloc (.cells #[.int .i64 0] 3)) (w.heap.size + 1) 3 #[.int .i64 0] := by
        have := Blk.new (w.alloc (.cells #[.int .i64 0, .int .i64 0, .string ⟨#[]⟩, .slice none 0 0] 41)) 3 #[.int .i64 0]
        rwa [size_alloc] at this
      exact (h1.alloc _).alloc _, by
      have h1 : Blk (((w.alloc (.cells #[.int .i64 0, .int .i64 0, .string ⟨#[]⟩, .slice none 0 0] 41)).alloc (.cells #[.int .i64 0] 3)).alloc (.cells #[.int .i64 0] 26)) (w.heap.size + 1 + 1) 26 #[.int .i64 0] := by
        have := Blk.new ((w.alloc (.cells #[.int .i64 0, .int .i64 0, .string ⟨#[]⟩, .slice none 0 0] 41)).alloc (.cells #[.int .i64 0] 3)) 26 #[.int .i64 0]
        rwa [size_alloc, size_alloc] at this
      exact h1.alloc _⟩
  have HI : Hid (InAt ((((w.alloc (.cells #[.int .i64 0, .int .i64 0, .string ⟨#[]⟩, .slice none 0 0] 41)).alloc (.cells #[.int .i64 0] 3)).alloc (.cells #[.int .i64 0] 26)).alloc (.cells #[.slice q l.length cap, .int .i64 0, .int .i64 1048576, .int .i64 65536] 85)) (w.heap.size + 1 + 1 + 1) q cap l ((0 : Nat) : Int) ((1048576 : Nat) : Int) ((65536 : Nat) : Int)) :=
    Lib.hid (H.out.reader HE.out (by omega) (by
      have := Blk.new (((w.alloc (.cells #[.int .i64 0, .int .i64 0, .string ⟨#[]⟩, .slice none 0 0] 41)).alloc (.cells #[.int .i64 0] 3)).alloc (.cells #[.int .i64 0] 26)) 85 #[.slice q l.length cap, .int .i64 0, .int .i64 1048576, .int .i64 65536]
      rwa [size_alloc, size_alloc, size_alloc] at this))
  have HS : Hid (((((w.alloc (.cells #[.int .i64 0, .int .i64 0, .string ⟨#[]⟩, .slice none 0 0] 41)).alloc (.cells #[.int .i64 0] 3)).alloc (.cells #[.int .i64 0] 26)).alloc (.cells #[.slice q l.length cap, .int .i64 0, .int .i64 1048576, .int .i64 65536] 85)).heap.size = w.heap.size + 1 + 1 + 1 + 1) := Lib.hid (by rw [size_alloc, size_alloc, size_alloc, size_alloc])
  clear h hr hB
  go_enter_defers Tryd.func20, Tryd.ntmps20
  go_wp2_with fail
  have cS := reply_any _ _ _ _ 100 (by omega) _ 0 1048576 65536 HI.out (by omega) (by omega) (by omega)
  generalize (((w.alloc (.cells #[.int .i64 0, .int .i64 0, .string ⟨#[]⟩, .slice none 0 0] 41)).alloc (.cells #[.int .i64 0] 3)).alloc (.cells #[.int .i64 0] 26)).alloc (.cells #[.slice q l.length cap, .int .i64 0, .int .i64 1048576, .int .i64 65536] 85) = w0 at HE HF HI HS cS ⊢
  have HB' := HB.out
  rw [HB'] at HF HI HS cS
  rw [HB']
  clear HB'
  refine cS.mono ?_
  clear cS HI
  intro e w1 hs
  have S := HR.out
  rw [S] at hs
  clear HR
  cases r with
  | error x =>
    obtain ⟨rfl, o2⟩ := hs
    have hx := reply_err (by show 0 ≤ l.length; omega) S
    have F1 := HF.out.only o2 (by omega)
    have E1 := (Only.to_ext o2 HE.out (by have := HB.out; omega))
    go_wp2_with fail
    exact dec_door w w1 B 0 x (by omega) F1 E1 (by have := HB.out; omega) _ (fun w'' h'' => DecE.err rfl rfl h'') _ _ _ _ _ _ _ _ _ _ _ _ _ _
  | ok x =>
    obtain ⟨v, rfl, ⟨lv, rfl, hv⟩, i2, o2⟩ := hs
    obtain ⟨q9, c9, hlv⟩ := hv.slice
    subst hlv
    have HV := Lib.hid hv
    have hsz := o2.le
    have hsz2 := HS.out
    have F1 := Lib.hid (HF.out.only o2 (by omega))
    have E1 := Lib.hid (Only.to_ext o2 HE.out (by have := HB.out; omega))
    have b0 := F1.out.x.cell 0
    have b1 := F1.out.x.cell 1
    have b2 := F1.out.x.cell 2
    have b3 := F1.out.x.cell 3
    have y0 := F1.out.x.frozen 0
    have y1 := F1.out.x.frozen 1
    have y2 := F1.out.x.frozen 2
    have y3 := F1.out.x.frozen 3
    have n0 := F1.out.n.cell 0
    have e0 := F1.out.e.cell 0
    have z1 := F1.out.n.frozen 0
    have z2 := F1.out.e.frozen 0
    have p1 := i2.blk.cell 1
    simp only [List.getElem?_toArray, List.getElem?_cons_zero, List.getElem?_cons_succ] at b0 b1 b2 b3 n0 e0 p1
    clear hv i2 o2 hsz hsz2
    go_wp2_with fail
    have hBB := HB.out
    have X2 := Lib.hid (put4 F1.out.x (.int .i64 x.1.k) (.int .i64 x.1.n) (.string x.1.s) (.slice q9 x.1.l.length c9))
    have N2 := Lib.hid ((((F1.out.n.far (p := ⟨B, 0, none⟩) (by show ¬ B + 1 = B; omega) (.int .i64 x.1.k)).far (p := ⟨B, 1, none⟩) (by show ¬ B + 1 = B; omega) (.int .i64 x.1.n)).far (p := ⟨B, 2, none⟩) (by show ¬ B + 1 = B; omega) (.string x.1.s)).far (p := ⟨B, 3, none⟩) (by show ¬ B + 1 = B; omega) (.slice q9 x.1.l.length c9))
    have E2 := Lib.hid ((((F1.out.e.far (p := ⟨B, 0, none⟩) (by show ¬ B + 1 + 1 = B; omega) (.int .i64 x.1.k)).far (p := ⟨B, 1, none⟩) (by show ¬ B + 1 + 1 = B; omega) (.int .i64 x.1.n)).far (p := ⟨B, 2, none⟩) (by show ¬ B + 1 + 1 = B; omega) (.string x.1.s)).far (p := ⟨B, 3, none⟩) (by show ¬ B + 1 + 1 = B; omega) (.slice q9 x.1.l.length c9))
    have W2 := Lib.hid ((((E1.out.setCell (p := ⟨B, 0, none⟩) (by show w.heap.size ≤ B; omega) (.int .i64 x.1.k)).setCell (p := ⟨B, 1, none⟩) (by show w.heap.size ≤ B; omega) (.int .i64 x.1.n)).setCell (p := ⟨B, 2, none⟩) (by show w.heap.size ≤ B; omega) (.string x.1.s)).setCell (p := ⟨B, 3, none⟩) (by show w.heap.size ≤ B; omega) (.slice q9 x.1.l.length c9))
    have p2 : ((((w1.setCell ⟨B, 0, none⟩ (.int .i64 x.1.k)).setCell ⟨B, 1, none⟩ (.int .i64 x.1.n)).setCell ⟨B, 2, none⟩ (.string x.1.s)).setCell ⟨B, 3, none⟩ (.slice q9 x.1.l.length c9)).cell? ⟨B + 1 + 1 + 1, 1, none⟩ = some (.int .i64 x.2.p) := by
      rw [cell_far (by omega), cell_far (by omega), cell_far (by omega), cell_far (by omega)]; exact p1
    have V2 : Hid (ListAt (fun b => w0.heap.size ≤ b) ((((w1.setCell ⟨B, 0, none⟩ (.int .i64 x.1.k)).setCell ⟨B, 1, none⟩ (.int .i64 x.1.n)).setCell ⟨B, 2, none⟩ (.string x.1.s)).setCell ⟨B, 3, none⟩ (.slice q9 x.1.l.length c9)) 100 (.slice q9 x.1.l.length c9) x.1.l) :=
      Lib.hid (HV.out.keep (fun b' o' v hok hc => by have := HS.out; rw [cell_far (by omega), cell_far (by omega), cell_far (by omega), cell_far (by omega)]; exact hc) (fun b' _ hok => hok))
    clear F1 E1 HV b0 b1 b2 b3 y0 y1 y2 y3 n0 e0 z1 z2 p1 hBB
    generalize (((w1.setCell ⟨B, 0, none⟩ (.int .i64 x.1.k)).setCell ⟨B, 1, none⟩ (.int .i64 x.1.n)).setCell ⟨B, 2, none⟩ (.string x.1.s)).setCell ⟨B, 3, none⟩ (.slice q9 x.1.l.length c9) = w2 at X2 N2 E2 W2 V2 p2 ⊢
    have b0 := X2.out.cell 0
    have b1 := X2.out.cell 1
    have b2 := X2.out.cell 2
    have b3 := X2.out.cell 3
    have y0 := X2.out.frozen 0
    have y1 := X2.out.frozen 1
    have y2 := X2.out.frozen 2
    have y3 := X2.out.frozen 3
    have n0 := N2.out.cell 0
    have e0 := E2.out.cell 0
    have z1 := N2.out.frozen 0
    have z2 := E2.out.frozen 0
    simp only [List.getElem?_toArray, List.getElem?_cons_zero, List.getElem?_cons_succ] at b0 b1 b2 b3 n0 e0
    have HSS := Lib.hid S
    clear S
    go_region
    all_goals go_wp2_with fail
    have hB := HB.out
    have FX : Blk (((((((w2.setCell ⟨B, 0, none⟩ (.int .i64 x.1.k)).setCell ⟨B, 1, none⟩ (.int .i64 x.1.n)).setCell ⟨B, 2, none⟩ (.string x.1.s)).setCell ⟨B, 3, none⟩ (.slice q9 x.1.l.length c9)).setCell ⟨B + 1, 0, none⟩ (.int .i64 (x.2.p : Int))).setCell ⟨B + 1 + 1, 0, none⟩ (.int .i64 0)).drew) B 41 #[.int .i64 x.1.k, .int .i64 x.1.n, .string x.1.s, .slice q9 x.1.l.length c9] :=
      (((put4 X2.out _ _ _ _).far (by show ¬ B = B + 1; omega) _).far (by show ¬ B = B + 1 + 1; omega) _).drew
    have FN : Blk (((((((w2.setCell ⟨B, 0, none⟩ (.int .i64 x.1.k)).setCell ⟨B, 1, none⟩ (.int .i64 x.1.n)).setCell ⟨B, 2, none⟩ (.string x.1.s)).setCell ⟨B, 3, none⟩ (.slice q9 x.1.l.length c9)).setCell ⟨B + 1, 0, none⟩ (.int .i64 (x.2.p : Int))).setCell ⟨B + 1 + 1, 0, none⟩ (.int .i64 0)).drew) (B + 1) 3 #[.int .i64 (x.2.p : Int)] :=
      (Blk.far (by simpa using ((((N2.out.far (p := ⟨B, 0, none⟩) (by show ¬ B + 1 = B; omega) (.int .i64 x.1.k)).far (p := ⟨B, 1, none⟩) (by show ¬ B + 1 = B; omega) (.int .i64 x.1.n)).far (p := ⟨B, 2, none⟩) (by show ¬ B + 1 = B; omega) (.string x.1.s)).far (p := ⟨B, 3, none⟩) (by show ¬ B + 1 = B; omega) (.slice q9 x.1.l.length c9)).set_ 0 (.int .i64 (x.2.p : Int))) (by show ¬ B + 1 = B + 1 + 1; omega) _).drew
    have FE : Blk (((((((w2.setCell ⟨B, 0, none⟩ (.int .i64 x.1.k)).setCell ⟨B, 1, none⟩ (.int .i64 x.1.n)).setCell ⟨B, 2, none⟩ (.string x.1.s)).setCell ⟨B, 3, none⟩ (.slice q9 x.1.l.length c9)).setCell ⟨B + 1, 0, none⟩ (.int .i64 (x.2.p : Int))).setCell ⟨B + 1 + 1, 0, none⟩ (.int .i64 0)).drew) (B + 1 + 1) 26 #[.int .i64 0] := by
      simpa using ((((((E2.out.far (p := ⟨B, 0, none⟩) (by show ¬ B + 1 + 1 = B; omega) (.int .i64 x.1.k)).far (p := ⟨B, 1, none⟩) (by show ¬ B + 1 + 1 = B; omega) (.int .i64 x.1.n)).far (p := ⟨B, 2, none⟩) (by show ¬ B + 1 + 1 = B; omega) (.string x.1.s)).far (p := ⟨B, 3, none⟩) (by show ¬ B + 1 + 1 = B; omega) (.slice q9 x.1.l.length c9)).far (p := ⟨B + 1, 0, none⟩) (by show ¬ B + 1 + 1 = B + 1; omega) (.int .i64 (x.2.p : Int))).set_ 0 (.int .i64 0)).drew
    have EX : Ext w (((((((w2.setCell ⟨B, 0, none⟩ (.int .i64 x.1.k)).setCell ⟨B, 1, none⟩ (.int .i64 x.1.n)).setCell ⟨B, 2, none⟩ (.string x.1.s)).setCell ⟨B, 3, none⟩ (.slice q9 x.1.l.length c9)).setCell ⟨B + 1, 0, none⟩ (.int .i64 (x.2.p : Int))).setCell ⟨B + 1 + 1, 0, none⟩ (.int .i64 0)).drew) :=
      ((((((W2.out.setCell (by show w.heap.size ≤ B; omega) _).setCell (by show w.heap.size ≤ B; omega) _).setCell (by show w.heap.size ≤ B; omega) _).setCell (by show w.heap.size ≤ B; omega) _).setCell (by show w.heap.size ≤ B + 1; omega) _).setCell (by show w.heap.size ≤ B + 1 + 1; omega) _).drew
    have VX : ListAt (fun b => w.heap.size ≤ b) (((((((w2.setCell ⟨B, 0, none⟩ (.int .i64 x.1.k)).setCell ⟨B, 1, none⟩ (.int .i64 x.1.n)).setCell ⟨B, 2, none⟩ (.string x.1.s)).setCell ⟨B, 3, none⟩ (.slice q9 x.1.l.length c9)).setCell ⟨B + 1, 0, none⟩ (.int .i64 (x.2.p : Int))).setCell ⟨B + 1 + 1, 0, none⟩ (.int .i64 0)).drew) 100 (.slice q9 x.1.l.length c9) x.1.l :=
      V2.out.keep (fun b' o' v hok hc => by have := HS.out; rw [World.cell?_drew, cell_far (by omega), cell_far (by omega), cell_far (by omega), cell_far (by omega), cell_far (by omega), cell_far (by omega)]; exact hc) (fun b' _ hok => by have := HS.out; omega)
    refine dec_done _ B _ _ _ _ (x.2.p : Int) ⟨FX, FN, FE⟩ ⟨_, _, _, _, _, _, rfl, rfl, rfl, rfl⟩ _ (DecE.ok rfl ⟨_, rfl, ⟨_, rfl, VX⟩, EX⟩) _ _ _ _ _ _ _ _ _ _ _ _ _ _
end Go.Proofs.YtopdgmchkoaeeaaDoor
