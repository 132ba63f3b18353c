/- Any reply is laid, or refused. A reply that is decoded: the walk of Decode. Encode and Check. Small functions of the statements: num, One, few. The closed part of all statements: a request, a reply. -/
import Derived.Test.YtlfihdcgbhdajaaGreatDoorYRtF
import Derived.Test.YtlfihdcgbhdajaaGreatDoorYRtH
import Derived.Test.YtlfihdcgbhdajaaGreatDoorYA6
import Derived.Test.YtlfihdcgbhdajaaGreatDoorYA3
import Derived.Deep.RegionHeld3
import Derived.Test.YtlfihdcgbhdajaaGreatDoorYA1
import Derived.Test.YtlfihdcgbhdajaaGreatDoorYA4
import Derived.Deep.LoopGhost
import Derived.Lib.Strings
import Derived.Laws.OwnMore
import Derived.OwnWalk
namespace Go.Proofs.YtlfihdcgbhdajaaGreatDoor
open Go.RowKit
set_option linter.unusedVariables false
set_option linter.unusedSimpArgs false

theorem lay_step {B tb ib bb fb : Nat} (d : Nat) (hd : d ≤ 1000) (hsub : ∀ d', d = d' + 1 → LayAll B tb ib bb fb d') : LayAll B tb ib bb fb d := by
 intro w T I l x q c D h hT hI hL hv h6
 have hx6 : (-9223372036854775808 ≤ x.n ∧ x.n ≤ 9223372036854775807) ∧ i64L x.l := by
  obtain ⟨k, n, s, l'⟩ := x
  exact h6
 by_cases ho : T < x.s.size ∨ I < x.l.length
 ·exact lay_over w d x q c h hT hI ho
 ·have hs : x.s.size ≤ T := by omega
  have hn : x.l.length ≤ I := by omega
  by_cases k0 : x.k = 0
  ·exact lay_k0 w d x q c h hT hI hs hn hL k0
  ·by_cases k1 : x.k = 1
   ·cases h13 : hasB x.s 13 with
    | true => exact lay_k1a w d x q c h hT hI hs hn hL k1 h13
    | false =>
     cases h10 : hasB x.s 10 with
     | true => exact lay_k1b w d x q c h hT hI hs hn hL k1 h13 h10
     | false => exact lay_k1c w d x q c h hT hI hs hn hL k1 h13 h10
   ·by_cases k2 : x.k = 2
    ·cases h13 : hasB x.s 13 with
     | true => exact lay_k2a w d x q c h hT hI hs hn hL k2 h13
     | false =>
      cases h10 : hasB x.s 10 with
      | true => exact lay_k2b w d x q c h hT hI hs hn hL k2 h13 h10
      | false => exact lay_k2c w d x q c h hT hI hs hn hL k2 h13 h10
    ·by_cases k3 : x.k = 3
     ·exact lay_k3 w d x q c h hT hI hs hn hL k3 hx6.1
     ·by_cases k4 : x.k = 4
      ·exact lay_k4 w d x q c h hT hI hs hn hL k4
      ·by_cases k5 : x.k = 5
       ·cases d with
        | zero => exact lay_k50 w 0 x q c h hT hI hs hn hL k5 rfl
        | succ d => exact lay_k5 w d x q c h hT hI hs hn hL k5 D (by omega) hv hx6.2 (hsub d rfl)
       ·exact lay_kX w d x q c h hT hI hs hn hL x.k rfl ⟨k0, k1, k2, k3, k4, k5⟩
theorem lay_all {B tb ib bb fb : Nat} : ∀ (d : Nat), d ≤ 1000 → LayAll B tb ib bb fb d
 | 0, hd => lay_step 0 hd (fun d' h => by omega)
 | d + 1, hd => lay_step (d + 1) hd (fun d' h => by
   obtain rfl : d = d' := by omega
   exact lay_all d (by omega))
end Go.Proofs.YtlfihdcgbhdajaaGreatDoor
namespace Go.Proofs.YtlfihdcgbhdajaaGreatDoor
open Go.RowKit
set_option linter.unusedVariables false
set_option linter.unusedSimpArgs false
attribute [local go_sem ↓] Go.wp_at_zero Go.wp_at_succ

def zeroRep : Value := .agg #[.int .i64 0, .int .i64 0, .string ⟨#[]⟩, .slice none 0 0]
structure FacesD (w : World) (B : Nat) (a0 a1 a2 a3 : Value) (n c : Int) : Prop where
 x : Blk w B 25 #[a0, a1, a2, a3]
 n : Blk w (B + 1) 3 #[.int .i64 n]
 e : Blk w (B + 1 + 1) 60 #[.int .i64 c]
theorem FacesD.ext {w w' : World} {B : Nat} {a0 a1 a2 a3 : Value} {n c : Int} (h : FacesD w B a0 a1 a2 a3 n c) (he : Ext w w') : FacesD w' B a0 a1 a2 a3 n c := ⟨h.x.ext he, h.n.ext he, h.e.ext he⟩
theorem FacesD.only {w w' : World} {B g : Nat} {a0 a1 a2 a3 : Value} {n c : Int} (h : FacesD w B a0 a1 a2 a3 n c) (he : Only g w w') (hg : B + 1 + 1 < g) : FacesD w' B a0 a1 a2 a3 n c := ⟨h.x.only he (by omega), h.n.only he (by omega), h.e.only he (by omega)⟩
def DecE (w : World) (r : Except Int (Rep × St)) (e : Ending) (w' : World) : Prop :=
 match r with
 | .ok x => ∃ v, e = .returned (.tuple #[v, .int .i64 (x.2.p : Int), .int .i64 0]) ∧ RepV (fun b => w.heap.size ≤ b) w' 100 v x.1 ∧ Ext w w'
 | .error c => e = .returned (.tuple #[zeroRep, .int .i64 0, .int .i64 c]) ∧ Ext w w'
theorem DecE.ok {w w' : World} {r : Except Int (Rep × St)} {e : Ending} {x : Rep × St} (hr : r = .ok x) (h : ∃ v, e = .returned (.tuple #[v, .int .i64 (x.2.p : Int), .int .i64 0]) ∧ RepV (fun b => w.heap.size ≤ b) w' 100 v x.1 ∧ Ext w w') : DecE w r e w' := by
 subst hr; exact h
end Go.Proofs.YtlfihdcgbhdajaaGreatDoor
namespace Go.Proofs.YtlfihdcgbhdajaaGreatDoor
open Go.RowKit
set_option linter.unusedVariables false
set_option linter.unusedSimpArgs false
attribute [local go_sem ↓] Go.wp_at_zero Go.wp_at_succ

def repOkB (x : Rep) : Bool := layOk 100 x 1048576 65536
theorem repOk_iff (x : Rep) : repOkB x = true ↔ repOk x := by simp [repOkB, layOk, repOk, and_assoc]
def EncE (w : World) (x : Rep) (e : Ending) (w' : World) : Prop :=
 Ext w w' ∧ (if repOkB x = true then ∃ v, e = .returned (.tuple #[v, .int .i64 0]) ∧ BytesV w.heap.size w' v (encR x) else e = .returned (.tuple #[.slice none 0 0, .int .i64 2]))
set_option maxRecDepth 100000 in
theorem estrike_err (be bx : Nat) (c : Int) (v : Value) (u : FrameMode) (w : World) (hc : ¬ c = 0) (h1 : w.cell? ⟨be, 0, none⟩ = some (.int .i64 c)) (hx : w.cell? ⟨bx, 0, none⟩ = some v) (hz : w.frozen? ⟨bx, 0, none⟩ = false) (hv : ∃ q m c, v = .slice q m c) :
  CallsD Tryz.prog 73 #[.pointer (some ⟨be, 0, none⟩), .pointer (some ⟨bx, 0, none⟩)] u w fun e u' w' => u' = u ∧ e = .returned (.tuple #[]) ∧ w' = w.setCell ⟨bx, 0, none⟩ (.slice none 0 0) := by
 have h0 : (c == 0) = false := by simpa using hc
 have h0' : (c != 0) = true := by simpa using hc
 obtain ⟨q, m, c2, rfl⟩ := hv
 go_enter_d Tryz.func73, Tryz.ntmps73
 go_wp2_with fail
 go_end0
 exact ⟨rfl, rfl⟩
theorem estrike_ok (be bx : Nat) (u : FrameMode) (w : World) (h1 : w.cell? ⟨be, 0, none⟩ = some (.int .i64 0)) :
  CallsD Tryz.prog 73 #[.pointer (some ⟨be, 0, none⟩), .pointer (some ⟨bx, 0, none⟩)] u w fun e u' w' => u' = u ∧ e = .returned (.tuple #[]) ∧ w' = w := by
 go_enter_d Tryz.func73, Tryz.ntmps73
 go_wp2_with fail
 go_end0
 exact ⟨rfl, rfl⟩
structure FacesE (w : World) (B : Nat) (v : Value) (c : Int) : Prop where
 b : Blk w B 103 #[v]
 e : Blk w (B + 1) 60 #[.int .i64 c]
set_option maxRecDepth 100000 in
set_option maxHeartbeats 1000000 in
theorem enc_door (w w' : World) (B : Nat) (v : Value) (c : Int) (hc : ¬ c = 0) (hv : ∃ q m c, v = .slice q m c) (hF : FacesE w' B v 0) (he : Ext w w') (hB : w.heap.size ≤ B) (R : Ending → World → Prop)
    (hR : ∀ w'', Ext w w'' → R (.returned (.tuple #[.slice none 0 0, .int .i64 c])) w'') (x0 x1 x4 x5 x6 x7 x8 x9 x10 x11 x12 x13 x14 : Value) :
    Leaves Tryz.prog Tryz.f53 #[x0, x1, .pointer (some ⟨B, 0, none⟩), .pointer (some ⟨B + 1, 0, none⟩), x4, x5, x6, x7, x8, x9, x10, x11, x12, x13, x14] R
      [{ target := Target.fn (Fn.func 74) #[], args := #[.pointer (some ⟨B + 1, 0, none⟩)] },
       { target := Target.fn (Fn.func 73) #[.pointer (some ⟨B + 1, 0, none⟩), .pointer (some ⟨B, 0, none⟩)], args := #[] }] (.panicking [{ v := failV c, recovered := false }]) w' := by
  have e0 := hF.e.cell 0
  have ez := hF.e.frozen 0
  simp only [List.getElem?_toArray, List.getElem?_cons_zero, List.getElem?_cons_succ] at e0
  refine leaves_cons (f := 74) (args := #[.pointer (some ⟨B + 1, 0, none⟩)]) (by simp) (by simp [go_sem]) ?_
  refine (caught_panic c 0 (B + 1) [] w' e0 ez).mono ?_
  rintro e u' w1 ⟨rfl, rfl, rfl⟩
  have e1 : Ext w ((w'.setCell ⟨B + 1, 0, none⟩ (.int .i64 c)).alloc (.cells #[.int .i64 c] 145)) := (he.setCell (by show w.heap.size ≤ B + 1; omega) _).alloc _
  have le : Blk ((w'.setCell ⟨B + 1, 0, none⟩ (.int .i64 c)).alloc (.cells #[.int .i64 c] 145)) (B + 1) 60 #[.int .i64 c] := Blk.alloc (by simpa using hF.e.set_ 0 (.int .i64 c)) _
  have ll : Blk ((w'.setCell ⟨B + 1, 0, none⟩ (.int .i64 c)).alloc (.cells #[.int .i64 c] 145)) B 103 #[v] := (hF.b.far (by show ¬ B = B + 1; omega) _).alloc _
  generalize (w'.setCell ⟨B + 1, 0, none⟩ (.int .i64 c)).alloc (.cells #[.int .i64 c] 145) = w2 at e1 le ll ⊢
  show Leaves _ _ _ _ _ (settle _) w2
  have hs : settle (.panicking [{ v := failV c, recovered := true }]) = .returning := rfl
  rw [hs]
  refine leaves_cons (f := 73) (args := #[.pointer (some ⟨B + 1, 0, none⟩), .pointer (some ⟨B, 0, none⟩)]) (by simp) (by simp [go_sem]) ?_
  refine (estrike_err (B + 1) B c v .returning w2 hc (le.cell 0) (ll.cell 0) (ll.frozen 0) hv).mono ?_
  rintro e u' w3 ⟨rfl, rfl, rfl⟩
  have e3 : Ext w (w2.setCell ⟨B, 0, none⟩ (.slice none 0 0)) := e1.setCell hB _
  have me : Blk (w2.setCell ⟨B, 0, none⟩ (.slice none 0 0)) (B + 1) 60 #[.int .i64 c] := le.far (by show ¬ B + 1 = B; omega) _
  have ml : Blk (w2.setCell ⟨B, 0, none⟩ (.slice none 0 0)) B 103 #[.slice none 0 0] := by simpa using ll.set_ 0 (.slice none 0 0)
  generalize w2.setCell ⟨B, 0, none⟩ (.slice none 0 0) = w4 at e3 me ml ⊢
  have d1 := me.cell 0
  have d2 := ml.cell 0
  simp only [List.getElem?_toArray, List.getElem?_cons_zero, List.getElem?_cons_succ] at d1 d2
  have hR' := hR w4 e3
  simp [Leaves, settle, results, Tryz.results53, go_sem, d1, d2]
  exact hR'
set_option maxRecDepth 100000 in
set_option maxHeartbeats 1000000 in
theorem enc_done (w' : World) (B : Nat) (v : Value) (hF : FacesE w' B v 0) (hv : ∃ q m c, v = .slice q m c) (R : Ending → World → Prop)
    (hR : R (.returned (.tuple #[v, .int .i64 0])) w') (x0 x1 x4 x5 x6 x7 x8 x9 x10 x11 x12 x13 x14 : Value) :
    Leaves Tryz.prog Tryz.f53 #[x0, x1, .pointer (some ⟨B, 0, none⟩), .pointer (some ⟨B + 1, 0, none⟩), x4, x5, x6, x7, x8, x9, x10, x11, x12, x13, x14] R
      [{ target := Target.fn (Fn.func 74) #[], args := #[.pointer (some ⟨B + 1, 0, none⟩)] },
       { target := Target.fn (Fn.func 73) #[.pointer (some ⟨B + 1, 0, none⟩), .pointer (some ⟨B, 0, none⟩)], args := #[] }] .returning w' := by
  have e0 := hF.e.cell 0
  have l0 := hF.b.cell 0
  simp only [List.getElem?_toArray, List.getElem?_cons_zero, List.getElem?_cons_succ] at e0 l0
  obtain ⟨q, m, c2, rfl⟩ := hv
  refine leaves_cons (f := 74) (args := #[.pointer (some ⟨B + 1, 0, none⟩)]) (by simp) (by simp [go_sem]) ?_
  refine (caught_idle (B + 1) w').mono ?_
  rintro e u' w1 ⟨rfl, rfl, rfl⟩
  show Leaves _ _ _ _ _ (settle _) w1
  have hs : settle .returning = .returning := rfl
  rw [hs]
  refine leaves_cons (f := 73) (args := #[.pointer (some ⟨B + 1, 0, none⟩), .pointer (some ⟨B, 0, none⟩)]) (by simp) (by simp [go_sem]) ?_
  refine (estrike_ok (B + 1) B .returning w1 e0).mono ?_
  rintro e u' w3 ⟨rfl, rfl, rfl⟩
  simp [Leaves, settle, results, Tryz.results53, go_sem, e0, l0]
  exact hR
theorem EncE.no {w w' : World} {x : Rep} {e : Ending} (h : repOkB x = false) (he : e = .returned (.tuple #[.slice none 0 0, .int .i64 2])) (hw : Ext w w') : EncE w x e w' :=
 ⟨hw, by rw [if_neg (by rw [h]; decide)]; exact he⟩
theorem EncE.yes {w w' : World} {x : Rep} {e : Ending} (h : repOkB x = true) (he : ∃ v, e = .returned (.tuple #[v, .int .i64 0]) ∧ BytesV w.heap.size w' v (encR x)) (hw : Ext w w') : EncE w x e w' :=
 ⟨hw, by rw [if_pos h]; exact he⟩
theorem BytesV.far {base : Nat} {w : World} {v : Value} {l : List UInt8} (h : BytesV base w v l) {p : Addr} (hp : p.block < base) (u : Value) : BytesV base (w.setCell p u) v l := by
 obtain ⟨q, c, e, hb, hc⟩ := h
 refine ⟨q, c, e, ⟨fun k hk => ?_, hb.len, hb.slot.imp id (fun ⟨b, o, e, h⟩ => ⟨b, o, e, by rw [World.size_setCell]; exact h⟩), hb.room⟩, hc⟩
 obtain ⟨b, o, e', h'⟩ := hb.bytes k hk
 refine ⟨b, o, e', ?_⟩
 have := hc b o e'
 rw [World.cell?_setCell_other _ _ _ _ (fun e => by have := congrArg Addr.block e; simp only at this; omega)]
 exact h'
def encW (w : World) (x : Rep) (lv : Value) : World :=
 (((((((w.alloc (.cells #[.int .i64 x.k, .int .i64 x.n, .string x.s, lv] 25)).alloc (.cells #[.slice none 0 0] 103)).alloc (.cells #[.int .i64 0] 60)).alloc (.cells #[.pointer none, .slice none 0 0] 124)).alloc (.cells #[.int .i64 1048576] 3)).alloc (.cells #[.int .i64 65536] 3)).alloc
  (.cells #[.func (.func 75) #[] #[.pointer (some ⟨w.heap.size + 1 + 1 + 1 + 1, 0, none⟩), .pointer (some ⟨w.heap.size + 1 + 1 + 1 + 1 + 1, 0, none⟩), .pointer (some ⟨w.heap.size + 1 + 1 + 1, 0, none⟩), .pointer (some ⟨w.heap.size + 1 + 1 + 1 + 1 + 1 + 1, 0, none⟩)]] 125))
theorem enc_start (w : World) (x : Rep) (lv : Value) (hpw : Pow w) :
  EncAt (encW w x lv) (w.heap.size + 1 + 1 + 1) (w.heap.size + 1 + 1 + 1 + 1) (w.heap.size + 1 + 1 + 1 + 1 + 1) (w.heap.size + 1 + 1 + 1) (w.heap.size + 1 + 1 + 1 + 1 + 1 + 1) 1048576 65536 [] ∧
  FacesE (encW w x lv) (w.heap.size + 1) (.slice none 0 0) 0 ∧ Ext w (encW w x lv) := by
 have hg := hpw.lt
 unfold encW
 have s3 : (((w.alloc (.cells #[.int .i64 x.k, .int .i64 x.n, .string x.s, lv] 25)).alloc (.cells #[.slice none 0 0] 103)).alloc (.cells #[.int .i64 0] 60)).heap.size = w.heap.size + 1 + 1 + 1 := by rw [size_alloc, size_alloc, size_alloc]
 have E3 : Ext w (((w.alloc (.cells #[.int .i64 x.k, .int .i64 x.n, .string x.s, lv] 25)).alloc (.cells #[.slice none 0 0] 103)).alloc (.cells #[.int .i64 0] 60)) := (((Ext.refl w).alloc _).alloc _).alloc _
 have fb : Blk (((w.alloc (.cells #[.int .i64 x.k, .int .i64 x.n, .string x.s, lv] 25)).alloc (.cells #[.slice none 0 0] 103)).alloc (.cells #[.int .i64 0] 60)) (w.heap.size + 1) 103 #[.slice none 0 0] := (newR_at (by rw [size_alloc]) _ _).alloc _
 have fe : Blk (((w.alloc (.cells #[.int .i64 x.k, .int .i64 x.n, .string x.s, lv] 25)).alloc (.cells #[.slice none 0 0] 103)).alloc (.cells #[.int .i64 0] 60)) (w.heap.size + 1 + 1) 60 #[.int .i64 0] := newR_at (by rw [size_alloc, size_alloc]) _ _
 generalize ((w.alloc (.cells #[.int .i64 x.k, .int .i64 x.n, .string x.s, lv] 25)).alloc (.cells #[.slice none 0 0] 103)).alloc (.cells #[.int .i64 0] 60) = w3 at s3 E3 fb fe ⊢
 have b4 : BldAt (w.heap.size + 1 + 1 + 1) (w.heap.size + 1 + 1 + 1) [] (w3.alloc (.cells #[.pointer none, .slice none 0 0] 124)) := by rw [← s3]; exact BldAt.new w3
 have X : ∀ o p r, Ext (w3.alloc (.cells #[.pointer none, .slice none 0 0] 124)) ((((w3.alloc (.cells #[.pointer none, .slice none 0 0] 124)).alloc o).alloc p).alloc r) := fun o p r => (((Ext.refl _).alloc o).alloc p).alloc r
 refine ⟨⟨b4.ext (X _ _ _), ((newR_at (by rw [size_alloc, s3]) _ _).alloc _).alloc _, (newR_at (by rw [size_alloc, size_alloc, s3]) _ _).alloc _, newR_at (by rw [size_alloc, size_alloc, size_alloc, s3]) _ _, ⟨by omega, by omega, Nat.le_refl _, by omega, by omega⟩,
  by rw [size_alloc, size_alloc, size_alloc, size_alloc, s3]; omega, (((hpw.ext E3).alloc _).ext (X _ _ _)), by omega⟩, ⟨(fb.alloc _).ext (X _ _ _), (fe.alloc _).ext (X _ _ _)⟩, (E3.alloc _).trans (X _ _ _)⟩
set_option maxRecDepth 100000 in
set_option maxHeartbeats 4000000 in
theorem encode_any (w : World) (x : Rep) (q : Option Addr) (c D : Nat) (hv : ListAt (fun b => b < w.heap.size) w D (.slice q x.l.length c) x.l) (h6 : i64R x) (hpw : Pow w) :
  Calls Tryz.prog 53 #[.agg #[.int .i64 x.k, .int .i64 x.n, .string x.s, .slice q x.l.length c]] w (EncE w x) := by
 obtain ⟨he, hF, hE⟩ := enc_start w x (.slice q x.l.length c) hpw
 have HE := Lib.hid he
 have HF := Lib.hid hF
 have HX := Lib.hid hE
 have hL := lay_all 100 (by omega) (encW w x (.slice q x.l.length c)) 1048576 65536 [] x q c D he (by omega) (by omega) (by simp) ((hv.ext hE).keep (fun _ _ _ _ h => h) (fun b _ hb => by omega)) h6
 have HL := Lib.hid hL
 have H6 := Lib.hid h6
 have hmf : ∀ (fn : Fn) (first cap : Array Value) (w : World), (Instr.makeFunc fn first cap).run Tryz.prog w = .ok (.func fn first cap) w := fun _ _ _ _ => rfl
 have kc := fun (W : World) (s : ByteArray) => Lib.run_convert_string_bytes (P := Tryz.prog) W 9 103 5 s Tryz.underlying9 Tryz.underlying103 Tryz.underlying5
 clear hv h6 hpw he hF hE hL
 go_enter_defers Tryz.func53, Tryz.ntmps53
 go_wp2_with fail
 refine HL.out.mono ?_
 intro e w1 hs
 obtain ⟨hb, hk, hif⟩ := hs
 have HX1 := Lib.hid (HX.out.below hb (by omega))
 have HF1 : Hid (FacesE w1 (w.heap.size + 1) (.slice none 0 0) 0) := Lib.hid ⟨hk _ _ _ HF.out.b (by decide) (by decide) (by decide), hk _ _ _ HF.out.e (by decide) (by decide) (by decide)⟩
 clear hb hk
 cases hok : layOk 100 x 1048576 65536 with
 | false =>
  rw [if_neg (by rw [hok]; decide)] at hif
  obtain rfl := hif
  have HO : Hid (repOkB x = false) := Lib.hid hok
  clear hok
  go_wp2_with fail
  exact enc_door w w1 (w.heap.size + 1) _ 2 (by decide) ⟨_, _, _, rfl⟩ HF1.out HX1.out (by omega) _ (fun w'' h'' => EncE.no HO.out rfl h'') _ _ _ _ _ _ _ _ _ _ _ _ _
 | true =>
  rw [if_pos hok] at hif
  obtain ⟨rfl, henc⟩ := hif
  have HO : Hid (repOkB x = true) := Lib.hid hok
  have HC := Lib.hid henc
  clear hok henc HL HE HF HX
  go_wp2_with fail
  refine (hstring _ _ _ _ HC.out.bld HC.out.base).mono ?_
  rintro e w2 ⟨rfl, b2⟩
  rw [List.nil_append]
  have HX2 := Lib.hid (HX1.out.below b2 (by omega))
  have f1 : Blk w2 (w.heap.size + 1) 103 #[.slice none 0 0] := (b2.block _ (by omega)).trans HF1.out.b
  have f2 : Blk w2 (w.heap.size + 1 + 1) 60 #[.int .i64 0] := (b2.block _ (by omega)).trans HF1.out.e
  have E3 := bytes_ext w2 5 ⟨(encR x).toArray⟩
  have f1' := f1.ext E3
  have f2' := f2.ext E3
  have p1 := f1'.cell 0
  have p2 := f2'.cell 0
  have z1 := f1'.frozen 0
  have z2 := f2'.frozen 0
  simp only [List.getElem?_toArray, List.getElem?_cons_zero, List.getElem?_cons_succ] at p1 p2
  have HF2 := Lib.hid f1'
  have HF3 := Lib.hid f2'
  have HX3 := Lib.hid (HX2.out.trans E3)
  have HSZ : Hid (w.heap.size + 1 + 1 < w2.heap.size) := Lib.hid f2.lt
  clear b2 HF1 HX1 HC f1 f2 f1' f2' E3
  have hlen : (encR x).length ≤ 9223372036854775807 := by
   have h1 := (repOk_iff x).1 HO.out
   have h2 := encR_len x H6.out h1.2.1 h1.2.2
   have h3 := h1.2.1
   have h4 := h1.2.2
   omega
  have HLEN := Lib.hid hlen
  clear hlen
  go_wp2_with fail
  have hv := bytes_conv w2 ⟨(encR x).toArray⟩ HLEN.out
  have hv1 := (hv.far (p := ⟨w.heap.size + 1, 0, none⟩) (by show w.heap.size + 1 < _; have h5 := HSZ.out; omega) (.slice (some ⟨w2.heap.size, 0, none⟩) (encR x).length (grownCap w2 (encR x).length 0 5))).far (p := ⟨w.heap.size + 1 + 1, 0, none⟩) (by show w.heap.size + 1 + 1 < _; have h5 := HSZ.out; omega) (.int .i64 0)
  have b1 : Blk (((Lib.bytesWorld w2 5 ⟨(encR x).toArray⟩).setCell ⟨w.heap.size + 1, 0, none⟩ (.slice (some ⟨w2.heap.size, 0, none⟩) (encR x).length (grownCap w2 (encR x).length 0 5))).setCell ⟨w.heap.size + 1 + 1, 0, none⟩ (.int .i64 0)) (w.heap.size + 1) 103 #[.slice (some ⟨w2.heap.size, 0, none⟩) (encR x).length (grownCap w2 (encR x).length 0 5)] :=
   Blk.far (by simpa using HF2.out.set_ 0 (.slice (some ⟨w2.heap.size, 0, none⟩) (encR x).length (grownCap w2 (encR x).length 0 5))) (by show w.heap.size + 1 ≠ w.heap.size + 1 + 1; omega) _
  have b2 : Blk (((Lib.bytesWorld w2 5 ⟨(encR x).toArray⟩).setCell ⟨w.heap.size + 1, 0, none⟩ (.slice (some ⟨w2.heap.size, 0, none⟩) (encR x).length (grownCap w2 (encR x).length 0 5))).setCell ⟨w.heap.size + 1 + 1, 0, none⟩ (.int .i64 0)) (w.heap.size + 1 + 1) 60 #[.int .i64 0] := by
   simpa using (HF3.out.far (p := ⟨w.heap.size + 1, 0, none⟩) (by show w.heap.size + 1 + 1 ≠ w.heap.size + 1; omega) (.slice (some ⟨w2.heap.size, 0, none⟩) (encR x).length (grownCap w2 (encR x).length 0 5))).set_ 0 (.int .i64 0)
  have EX := (HX3.out.setCell (p := ⟨w.heap.size + 1, 0, none⟩) (by show w.heap.size ≤ w.heap.size + 1; omega) (.slice (some ⟨w2.heap.size, 0, none⟩) (encR x).length (grownCap w2 (encR x).length 0 5))).setCell (p := ⟨w.heap.size + 1 + 1, 0, none⟩) (by show w.heap.size ≤ w.heap.size + 1 + 1; omega) (.int .i64 0)
  refine enc_done _ (w.heap.size + 1) _ ⟨b1, b2⟩ ⟨_, _, _, rfl⟩ _ (EncE.yes HO.out ⟨_, rfl, ?_⟩ EX) _ _ _ _ _ _ _ _ _ _ _ _ _
  obtain ⟨q', c', e', hb, hc⟩ := hv1
  exact ⟨q', c', e', hb, fun b o e => Nat.le_trans HX2.out.le (hc b o e)⟩
def ChkE (w : World) (x : Rep) (e : Ending) (w' : World) : Prop := e = .returned (.int .i64 (if repOkB x = true then 0 else 2)) ∧ Ext w w'
set_option maxRecDepth 100000 in
theorem chkR_any (w : World) (x : Rep) (q : Option Addr) (c D : Nat) (hv : ListAt (fun b => b < w.heap.size) w D (.slice q x.l.length c) x.l) (h6 : i64R x) (hpw : Pow w) :
  Calls Tryz.prog 23 #[.agg #[.int .i64 x.k, .int .i64 x.n, .string x.s, .slice q x.l.length c]] w (ChkE w x) := by
 have E1 := (Ext.refl w).alloc (.cells #[.int .i64 x.k, .int .i64 x.n, .string x.s, .slice q x.l.length c] 25)
 have hC := encode_any (w.alloc (.cells #[.int .i64 x.k, .int .i64 x.n, .string x.s, .slice q x.l.length c] 25)) x q c D ((hv.ext E1).keep (fun _ _ _ _ h => h) (fun b _ hb => Nat.lt_of_lt_of_le hb E1.le)) h6 (hpw.ext E1)
 have HE := Lib.hid E1
 have HC := Lib.hid hC
 clear hv h6 hpw E1 hC
 go_enter Tryz.func23, Tryz.ntmps23
 go_wp2_with fail
 refine HC.out.mono ?_
 intro e w1 hs
 obtain ⟨e1, hif⟩ := hs
 have H1 := Lib.hid (HE.out.trans e1)
 clear e1 HC
 cases ho : repOkB x with
 | false =>
  rw [if_neg (by rw [ho]; decide)] at hif
  obtain rfl := hif
  have HO := Lib.hid ho
  clear ho
  go_wp2_with fail
  go_ret
  exact ⟨by rw [if_neg (by rw [HO.out]; decide)]; rfl, H1.out⟩
 | true =>
  rw [if_pos ho] at hif
  obtain ⟨v, rfl, hv⟩ := hif
  have HO := Lib.hid ho
  clear ho hv
  go_wp2_with fail
  go_ret
  exact ⟨by rw [if_pos HO.out]; rfl, H1.out⟩
end Go.Proofs.YtlfihdcgbhdajaaGreatDoor
namespace Go.Proofs.YtlfihdcgbhdajaaGreatDoor
open Go.RowKit
set_option linter.unusedVariables false
set_option linter.unusedSimpArgs false

end Go.Proofs.YtlfihdcgbhdajaaGreatDoor
namespace Go.Proofs.YtlfihdcgbhdajaaGreatDoor
open Go.RowKit
set_option linter.unusedVariables false
set_option linter.unusedSimpArgs false
def gb : List UInt8 := [42, 50, 13, 10, 36, 51, 13, 10, 71, 69, 84, 13, 10, 36, 49, 13, 10, 97, 13, 10]
end Go.Proofs.YtlfihdcgbhdajaaGreatDoor
