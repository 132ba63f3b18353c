/- Words: a word as a text, in the program; whether all words may be printed. Words: words as a text, in the program. syntax.Parse: what is deferred. syntax.Parse: its answers as they lie. -/
import Derived.Test.YtkbcnacjaakleaaGreatDoorYP32
import Derived.Lib.ItoaMem
import Derived.Test.YtkbcnacjaakleaaGreatDoorYScQ2
import Derived.Test.YtkbcnacjaakleaaGreatDoorYP28
import Derived.Recover
import Derived.Defers
set_option maxRecDepth 100000
set_option maxHeartbeats 32000000
set_option linter.unusedVariables false
set_option linter.unusedSimpArgs false
namespace Go.Proofs.YtkbcnacjaakleaaGreatDoor
open Go.RowKit

def WordsAt (w : World) (v : Value) (ws : List Wd) : Prop :=
 ∃ (q : Option Addr) (c : Nat), v = .slice q ws.length c ∧ (0 < ws.length → ∃ b o, q = some ⟨b, o, none⟩ ∧ ∀ i (h : i < ws.length),
  w.cell? ⟨b, o + i * 4, none⟩ = some (.int .i64 ws[i].k) ∧ w.cell? ⟨b, o + i * 4 + 1, none⟩ = some (.string ⟨ws[i].t.toArray⟩) ∧ w.cell? ⟨b, o + i * 4 + 2, none⟩ = some (.int .i64 ws[i].n) ∧ w.cell? ⟨b, o + i * 4 + 3, none⟩ = some (.int .i64 ws[i].a))
theorem OwnW.at {w : World} {B : Nat} {v : Value} {ws : List Wd} (h : OwnW w B v ws) : WordsAt w v ws := by
 obtain ⟨q, c, rfl, hc⟩ := h.cells
 refine ⟨q, c, rfl, fun h0 => ?_⟩
 obtain ⟨g, rfl, _, hx⟩ := hc h0
 refine ⟨g, 0, rfl, fun i hi => ?_⟩
 rw [Nat.zero_add]
 exact hx i hi
theorem WordsAt.ext {w w' : World} {v : Value} {ws : List Wd} (h : WordsAt w v ws) (he : Ext w w') : WordsAt w' v ws := by
 obtain ⟨q, c, rfl, hc⟩ := h
 refine ⟨q, c, rfl, fun h0 => ?_⟩
 obtain ⟨b, o, rfl, hx⟩ := hc h0
 exact ⟨b, o, rfl, fun i hi => ⟨cell_of_ext (hx i hi).1 he, cell_of_ext (hx i hi).2.1 he, cell_of_ext (hx i hi).2.2.1 he, cell_of_ext (hx i hi).2.2.2 he⟩⟩
end Go.Proofs.YtkbcnacjaakleaaGreatDoor
namespace Go.Proofs.YtkbcnacjaakleaaGreatDoor
open Go.RowKit

def OwnT (w : World) (B : Nat) (v : Value) (xs : List ByteArray) : Prop := w.ownsRow B 9 1 v xs.length (xs.map Value.string)
theorem OwnT.nil (w : World) (B : Nat) : OwnT w B (.slice none 0 0) [] := World.ownsRow_nil _ _ _ _
theorem OwnT.ext {w w' : World} {B : Nat} {v : Value} {xs : List ByteArray} (h : OwnT w B v xs) (he : Ext w w') : OwnT w' B v xs := own_ext h he
theorem OwnT.cell {w : World} {B g n c : Nat} {xs : List ByteArray} (h : OwnT w B (.slice (some ⟨g, 0, none⟩) n c) xs) (j : Nat) (hj : j < xs.length) : w.cell? ⟨g, j, none⟩ = some (.string xs[j]) := by
 have h1 := World.ownsRow.cells h (g := g) rfl j (.string xs[j]) (by rw [List.getElem?_map, List.getElem?_eq_getElem hj]; rfl)
 have e : ((⟨g, 0, none⟩ : Addr).add j) = ⟨g, 0 + j, none⟩ := by unfold Addr.add; split <;> simp_all
 rw [e, Nat.zero_add] at h1
 exact h1
end Go.Proofs.YtkbcnacjaakleaaGreatDoor
namespace Go.Proofs.YtkbcnacjaakleaaGreatDoor
open Go.RowKit

abbrev zNd : Value := .agg #[.int .i64 0, .string ⟨#[]⟩, .string ⟨#[]⟩, .int .i64 0, .slice none 0 0, .slice none 0 0]
abbrev wipe6 (W : World) (V : Nat) : World := put6 W V (.int .i64 0) (.string ⟨#[]⟩) (.string ⟨#[]⟩) (.int .i64 0) (.slice none 0 0) (.slice none 0 0)
theorem assert_stop0 (a b : Int) (w : World) : (Instr.typeAssert (.iface 85 (.agg #[.int .i64 a, .int .i64 b])) 20 85 true).run Tryz.prog w = .ok (.tuple #[.agg #[.int .i64 a, .int .i64 b], .bool true]) w := by kernel_rfl
theorem assert_stop (y : Int × Int) (w : World) : (Instr.typeAssert (stopV y) 20 85 true).run Tryz.prog w = .ok (.tuple #[.agg #[.int .i64 y.1, .int .i64 y.2], .bool true]) w := assert_stop0 y.1 y.2 w
theorem pidle (a b c : Value) (w : World) : CallsD Tryz.prog 52 #[a, b, c] .returning w fun e u' w' => e = .returned (.tuple #[]) ∧ u' = .returning ∧ w' = w := by
 refine callsD_of_wpS Tryz.func52 rfl fun c₀ cs hu => ?_
 apply wpS_seq
 apply wpS_region
 simp [wpOpsS, go_sem, recoverD, hu, Tryz.ntmps52, Exit.thenS]
 refine wpS_of_wp ?_
 go_wp2_with fail
 cases c₀
 simp_all [bodyPostS, results, Tryz.results52, Exit.inBlock]
def pcloseW (w : World) (B : Nat) (y : Int × Int) : World := ((((wipe6 w B).setCell ⟨B + 1, 0, none⟩ (.int .i64 y.1)).setCell ⟨B + 1 + 1, 0, none⟩ (.int .i64 y.2)).alloc (.cells #[.int .i64 y.1, .int .i64 y.2] 85)).drew
theorem ppanic (y : Int × Int) (B : Nat) (older : List PanicEntry) (w : World) (x0 x1 x2 x3 x4 x5 x6 x7 : Value) (h6 : Blk w B 28 #[x0, x1, x2, x3, x4, x5]) (h7 : Blk w (B + 1) 3 #[x6]) (h8 : Blk w (B + 1 + 1) 37 #[x7]) :
  CallsD Tryz.prog 52 #[.pointer (some ⟨B, 0, none⟩), .pointer (some ⟨B + 1, 0, none⟩), .pointer (some ⟨B + 1 + 1, 0, none⟩)] (.panicking ({ v := stopV y, recovered := false } :: older)) w fun e u' w' =>
   e = .returned (.tuple #[]) ∧ u' = .panicking ({ v := stopV y, recovered := true } :: older) ∧ w' = pcloseW w B y := by
 obtain ⟨y0, y1⟩ := y
 have ha : ∀ w : World, _ := assert_stop (y0, y1)
 have a0 := h6.cell 0
 have a1 := h6.cell 1
 have a2 := h6.cell 2
 have a3 := h6.cell 3
 have a4 := h6.cell 4
 have a5 := h6.cell 5
 have a6 := h7.cell 0
 have a7 := h8.cell 0
 have f0 := h6.frozen 0
 have f1 := h6.frozen 1
 have f2 := h6.frozen 2
 have f3 := h6.frozen 3
 have f4 := h6.frozen 4
 have f5 := h6.frozen 5
 have f6 := h7.frozen 0
 have f7 := h8.frozen 0
 have l0 := h6.lt
 have l1 := h7.lt
 have l2 := h8.lt
 simp only [List.getElem?_toArray, List.getElem?_cons_zero, List.getElem?_cons_succ] at a0 a1 a2 a3 a4 a5 a6 a7
 unfold stopV at ha
 refine callsD_of_wpS Tryz.func52 rfl fun c₀ cs hu => ?_
 unfold stopV at hu
 apply wpS_seq
 apply wpS_region
 simp [wpOpsS, go_sem, recoverD, hu, Tryz.ntmps52, Exit.thenS]
 refine wpS_of_wp ?_
 change Code.wp _ _ _ { tmps := #[.pointer (some ⟨B, 0, none⟩), .pointer (some ⟨B + 1, 0, none⟩), .pointer (some ⟨B + 1 + 1, 0, none⟩), undef, undef, undef, .iface 85 (.agg #[.int .i64 y0, .int .i64 y1]), undef, undef, undef, undef, undef, undef, undef, undef, undef, undef], defers := [] } w
 generalize hcs : ({ c₀ with mode := FrameMode.panicking ({ v := .iface 85 (.agg #[.int .i64 y0, .int .i64 y1]), recovered := true } :: older) } :: cs : List Frame) = cs'
 go_wp2_with fail
 go_region
 subst hcs
 rename_i Q'
 simp [Q', Exit.then, Exit.inBlock, bodyPostS, results, Tryz.results52, stopV, pcloseW]
end Go.Proofs.YtkbcnacjaakleaaGreatDoor
namespace Go.Proofs.YtkbcnacjaakleaaGreatDoor
open Go.RowKit

theorem lexS_len {l : List UInt8} {ws : List Wd} (h : lexS l = .ok ws) : ws.length ≤ l.length := by
 unfold lexS at h
 by_cases hg : ∀ x ∈ itemsP (blankS false l) (l.drop (blankS false l)), 1 ≤ x.2
 ·rw [lex_fine _ _ _ (Nat.le_refl _) hg] at h
  cases h
  have := items_len _ (l.drop (blankS false l)) (blankS false l) (Nat.le_refl _)
  rw [List.length_drop] at this
  rw [List.length_map]
  omega
 ·simp only [Classical.not_forall] at hg
  obtain ⟨x, hx, h0⟩ := hg
  obtain ⟨pre, tail, e⟩ := List.append_of_mem hx
  obtain ⟨p, _, e2⟩ := lex_bad _ _ _ pre tail x (Nat.le_refl _) e (by omega)
  rw [e2] at h
  cases h
def ParseE (w : World) (l : List UInt8) (e : Ending) (w' : World) : Prop := Ext w w' ∧ match parseR l with
 | .error y => e = .returned (.tuple #[zNd, .int .i64 y.1, .int .i64 y.2])
 | .ok x => ∃ v d, e = .returned (.tuple #[v, .int .i64 0, .int .i64 0]) ∧ NodeAt (w.heap.size ≤ ·) w' d v x
theorem pface_ret (W : World) (V : Nat) (u0 u1 u2 u3 u4 u5 u6 u7 : Value) (hv : Blk W V 28 #[u0, u1, u2, u3, u4, u5]) (ha : Blk W (V + 1) 3 #[u6]) (he : Blk W (V + 1 + 1) 37 #[u7]) (R : Ending → World → Prop) (hR : R (.returned (.tuple #[.agg #[u0, u1, u2, u3, u4, u5], u6, u7])) W) (x0 x1 x5 x6 x7 x8 x9 x10 x11 x12 x13 x14 x15 x16 x17 x18 x19 x20 x21 x22 x23 x24 x25 x26 x27 x28 x29 x30 x31 x32 x33 x34 x35 x36 x37 x38 x39 x40 x41 x42 : Value) :
  bodyPostD Tryz.prog Tryz.f26 R Exit.ret { tmps := #[x0, x1, .pointer (some ⟨V, 0, none⟩), .pointer (some ⟨V + 1, 0, none⟩), .pointer (some ⟨V + 1 + 1, 0, none⟩), x5, x6, x7, x8, x9, x10, x11, x12, x13, x14, x15, x16, x17, x18, x19, x20, x21, x22, x23, x24, x25, x26, x27, x28, x29, x30, x31, x32, x33, x34, x35, x36, x37, x38, x39, x40, x41, x42], defers := [] } W := by
 have d0 := hv.cell 0
 have d1 := hv.cell 1
 have d2 := hv.cell 2
 have d3 := hv.cell 3
 have d4 := hv.cell 4
 have d5 := hv.cell 5
 have d6 := ha.cell 0
 have d7 := he.cell 0
 simp only [List.getElem?_toArray, List.getElem?_cons_zero, List.getElem?_cons_succ] at d0 d1 d2 d3 d4 d5 d6 d7
 simp [bodyPostD, Leaves, settle, results, Tryz.results26, go_sem, d0, d1, d2, d3, d4, d5, d6, d7]
 exact hR
theorem pface_done (W : World) (V : Nat) (u0 u1 u2 u3 u4 u5 u6 u7 : Value) (hv : Blk W V 28 #[u0, u1, u2, u3, u4, u5]) (ha : Blk W (V + 1) 3 #[u6]) (he : Blk W (V + 1 + 1) 37 #[u7]) (R : Ending → World → Prop) (hR : R (.returned (.tuple #[.agg #[u0, u1, u2, u3, u4, u5], u6, u7])) W) (x0 x1 x5 x6 x7 x8 x9 x10 x11 x12 x13 x14 x15 x16 x17 x18 x19 x20 x21 x22 x23 x24 x25 x26 x27 x28 x29 x30 x31 x32 x33 x34 x35 x36 x37 x38 x39 x40 x41 x42 : Value) :
  Leaves Tryz.prog Tryz.f26 #[x0, x1, .pointer (some ⟨V, 0, none⟩), .pointer (some ⟨V + 1, 0, none⟩), .pointer (some ⟨V + 1 + 1, 0, none⟩), x5, x6, x7, x8, x9, x10, x11, x12, x13, x14, x15, x16, x17, x18, x19, x20, x21, x22, x23, x24, x25, x26, x27, x28, x29, x30, x31, x32, x33, x34, x35, x36, x37, x38, x39, x40, x41, x42] R [{ target := Target.fn (Fn.func 52) #[.pointer (some ⟨V, 0, none⟩), .pointer (some ⟨V + 1, 0, none⟩), .pointer (some ⟨V + 1 + 1, 0, none⟩)], args := #[] }] .returning W := by
 have d0 := hv.cell 0
 have d1 := hv.cell 1
 have d2 := hv.cell 2
 have d3 := hv.cell 3
 have d4 := hv.cell 4
 have d5 := hv.cell 5
 have d6 := ha.cell 0
 have d7 := he.cell 0
 simp only [List.getElem?_toArray, List.getElem?_cons_zero, List.getElem?_cons_succ] at d0 d1 d2 d3 d4 d5 d6 d7
 refine leaves_cons (f := 52) (args := #[.pointer (some ⟨V, 0, none⟩), .pointer (some ⟨V + 1, 0, none⟩), .pointer (some ⟨V + 1 + 1, 0, none⟩)]) (by simp) (by simp [go_sem]) ?_
 refine (pidle _ _ _ W).mono ?_
 rintro e u' w1 ⟨rfl, rfl, rfl⟩
 show Leaves _ _ _ _ _ (settle _) w1
 have hs : settle .returning = .returning := rfl
 rw [hs]
 simp [Leaves, settle, results, Tryz.results26, go_sem, d0, d1, d2, d3, d4, d5, d6, d7]
 exact hR
theorem pclose_blk (W : World) (V : Nat) (u0 u1 u2 u3 u4 u5 u6 u7 : Value) (hv : Blk W V 28 #[u0, u1, u2, u3, u4, u5]) (ha : Blk W (V + 1) 3 #[u6]) (he : Blk W (V + 1 + 1) 37 #[u7]) (y : Int × Int) :
  Blk (pcloseW W V y) V 28 #[.int .i64 0, .string ⟨#[]⟩, .string ⟨#[]⟩, .int .i64 0, .slice none 0 0, .slice none 0 0] ∧ Blk (pcloseW W V y) (V + 1) 3 #[.int .i64 y.1] ∧ Blk (pcloseW W V y) (V + 1 + 1) 37 #[.int .i64 y.2] := by
 have g0 := Blk.put6 hv (.int .i64 0) (.string ⟨#[]⟩) (.string ⟨#[]⟩) (.int .i64 0) (.slice none 0 0) (.slice none 0 0)
 have g1 : Blk (wipe6 W V) (V + 1) 3 #[u6] := (put6_far W V _ _ _ _ _ _ _ (by omega)).trans ha
 have g2 : Blk (wipe6 W V) (V + 1 + 1) 37 #[u7] := (put6_far W V _ _ _ _ _ _ _ (by omega)).trans he
 have h1 := g1.set_ 0 (.int .i64 y.1)
 have h2 := (g2.far (p := ⟨V + 1, 0, none⟩) (by show ¬ V + 1 + 1 = V + 1; omega) (.int .i64 y.1)).set_ 0 (.int .i64 y.2)
 simp only [List.setIfInBounds_toArray, List.set_cons_zero] at h1 h2
 have fin : ∀ {X : World} {b : Nat} {t : TypeId} {cs : Array Value}, Blk X b t cs → Blk ((X.alloc (.cells #[.int .i64 y.1, .int .i64 y.2] 85)).drew) b t cs := fun h => Blk.ext h (((Ext.refl _).alloc _).drew)
 unfold pcloseW
 exact ⟨fin ((g0.far (p := ⟨V + 1, 0, none⟩) (by show ¬ V = V + 1; omega) _).far (p := ⟨V + 1 + 1, 0, none⟩) (by show ¬ V = V + 1 + 1; omega) _), fin (h1.far (p := ⟨V + 1 + 1, 0, none⟩) (by show ¬ V + 1 = V + 1 + 1; omega) _), fin h2⟩
theorem pclose_ext {B W : World} (h : Ext B W) (V : Nat) (hV : B.heap.size ≤ V) (y : Int × Int) : Ext B (pcloseW W V y) := by
 unfold pcloseW
 refine Ext.drew (Ext.alloc ?_ _)
 repeat (refine Ext.setCell ?_ (by show B.heap.size ≤ _; first | exact hV | (show B.heap.size ≤ V; exact hV) | (show B.heap.size ≤ V + 1; omega) | (show B.heap.size ≤ V + 1 + 1; omega)) _)
 exact h
theorem pface_door (W : World) (V : Nat) (y : Int × Int) (u0 u1 u2 u3 u4 u5 u6 u7 : Value) (hv : Blk W V 28 #[u0, u1, u2, u3, u4, u5]) (ha : Blk W (V + 1) 3 #[u6]) (he : Blk W (V + 1 + 1) 37 #[u7]) (R : Ending → World → Prop) (hR : R (.returned (.tuple #[zNd, .int .i64 y.1, .int .i64 y.2])) (pcloseW W V y)) (x0 x1 x5 x6 x7 x8 x9 x10 x11 x12 x13 x14 x15 x16 x17 x18 x19 x20 x21 x22 x23 x24 x25 x26 x27 x28 x29 x30 x31 x32 x33 x34 x35 x36 x37 x38 x39 x40 x41 x42 : Value) :
  Leaves Tryz.prog Tryz.f26 #[x0, x1, .pointer (some ⟨V, 0, none⟩), .pointer (some ⟨V + 1, 0, none⟩), .pointer (some ⟨V + 1 + 1, 0, none⟩), x5, x6, x7, x8, x9, x10, x11, x12, x13, x14, x15, x16, x17, x18, x19, x20, x21, x22, x23, x24, x25, x26, x27, x28, x29, x30, x31, x32, x33, x34, x35, x36, x37, x38, x39, x40, x41, x42] R [{ target := Target.fn (Fn.func 52) #[.pointer (some ⟨V, 0, none⟩), .pointer (some ⟨V + 1, 0, none⟩), .pointer (some ⟨V + 1 + 1, 0, none⟩)], args := #[] }] (.panicking [{ v := stopV y, recovered := false }]) W := by
 refine leaves_cons (f := 52) (args := #[.pointer (some ⟨V, 0, none⟩), .pointer (some ⟨V + 1, 0, none⟩), .pointer (some ⟨V + 1 + 1, 0, none⟩)]) (by simp) (by simp [go_sem]) ?_
 refine (ppanic y V [] W _ _ _ _ _ _ _ _ hv ha he).mono ?_
 obtain ⟨g0, g1, g2⟩ := pclose_blk W V _ _ _ _ _ _ _ _ hv ha he y
 rintro e u' w1 ⟨rfl, rfl, rfl⟩
 show Leaves _ _ _ _ _ (settle _) _
 have hs : settle (.panicking [{ v := stopV y, recovered := true }]) = .returning := rfl
 rw [hs]
 clear hv ha he
 generalize pcloseW W V y = W1 at *
 have hv := g0
 have ha := g1
 have he := g2
 have d0 := hv.cell 0
 have d1 := hv.cell 1
 have d2 := hv.cell 2
 have d3 := hv.cell 3
 have d4 := hv.cell 4
 have d5 := hv.cell 5
 have d6 := ha.cell 0
 have d7 := he.cell 0
 simp only [List.getElem?_toArray, List.getElem?_cons_zero, List.getElem?_cons_succ] at d0 d1 d2 d3 d4 d5 d6 d7
 simp [Leaves, settle, results, Tryz.results26, go_sem, d0, d1, d2, d3, d4, d5, d6, d7]
 exact hR
end Go.Proofs.YtkbcnacjaakleaaGreatDoor
