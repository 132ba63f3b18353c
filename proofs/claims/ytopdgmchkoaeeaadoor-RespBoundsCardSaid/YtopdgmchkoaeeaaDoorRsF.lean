/- What is deferred at a face: caught; the answers struck. A request that is read. -/
import Derived.Test.YtopdgmchkoaeeaaDoorRsE
import Derived.Deep.AppendLies
import Derived.Deep.RegionLaw
namespace Go.Proofs.YtopdgmchkoaeeaaDoor
open Go.RowKit
set_option linter.unusedVariables false
set_option linter.unusedSimpArgs false

def failV (c : Int) : Value := .iface 107 (.agg #[.int .i64 c])
theorem assert_fail (c : Int) (w : World) : (Instr.typeAssert (.iface 107 (.agg #[.int .i64 c])) 20 107 true).run Tryd.prog w = .ok (.tuple #[.agg #[.int .i64 c], .bool true]) w := by kernel_rfl
set_option maxRecDepth 100000 in
set_option maxHeartbeats 1000000 in
theorem caught_panic (c x : Int) (b : Nat) (older : List PanicEntry) (w : World) (hc : w.cell? ⟨b, 0, none⟩ = some (.int .i64 x)) (hz : w.frozen? ⟨b, 0, none⟩ = false) :
    CallsD Tryd.prog 42 #[.pointer (some ⟨b, 0, none⟩)] (.panicking ({ v := failV c, recovered := false } :: older)) w fun e u' w' =>
      e = .returned (.tuple #[]) ∧ u' = .panicking ({ v := failV c, recovered := true } :: older) ∧ w' = (w.setCell ⟨b, 0, none⟩ (.int .i64 c)).alloc (.cells #[.int .i64 c] 107) := by
  have hb := cell_lt hc
  have hne : ¬ b = w.heap.size := by simp only at hb; omega
  have ha := assert_fail c
  refine callsD_of_wpS Tryd.func42 rfl fun c₀ cs hu => ?_
  unfold failV at hu
  apply wpS_seq
  apply wpS_region
  simp [wpOpsS, go_sem, recoverD, hu, Tryd.ntmps42, Exit.thenS]
  refine wpS_of_wp ?_
  change Code.wp _ _ _ { tmps := #[.pointer (some ⟨b, 0, none⟩), undef, undef, undef, undef, .iface 107 (.agg #[.int .i64 c]), undef, undef, undef, undef, undef, undef, undef, undef, undef], defers := [] } w
  generalize hcs : ({ c₀ with mode := FrameMode.panicking ({ v := .iface 107 (.agg #[.int .i64 c]), recovered := true } :: older) } :: cs : List Frame) = cs'
  go_wp2_with fail
  subst hcs
  simp [bodyPostS, results, Tryd.results42, failV]
theorem caught_idle (b : Nat) (w : World) :
    CallsD Tryd.prog 42 #[.pointer (some ⟨b, 0, none⟩)] .returning w fun e u' w' => e = .returned (.tuple #[]) ∧ u' = .returning ∧ w' = w := by
  refine callsD_of_wpS Tryd.func42 rfl fun c₀ cs hu => ?_
  apply wpS_seq
  apply wpS_region
  simp [wpOpsS, go_sem, recoverD, hu, Tryd.ntmps42, Exit.thenS]
  refine wpS_of_wp ?_
  go_wp2_with fail
  cases c₀
  simp_all [bodyPostS, results, Tryd.results42]

set_option maxRecDepth 100000 in
theorem strike_err (be bl bn : Nat) (c : Int) (vl : Value) (n : Int) (u : FrameMode) (w : World) (hc : ¬ c = 0) (h1 : w.cell? ⟨be, 0, none⟩ = some (.int .i64 c)) (h2 : w.cell? ⟨bl, 0, none⟩ = some (.slice none 0 0) ∨ ∃ q k m, w.cell? ⟨bl, 0, none⟩ = some (.slice q k m)) (h3 : w.cell? ⟨bn, 0, none⟩ = some (.int .i64 n))
    (z2 : w.frozen? ⟨bl, 0, none⟩ = false) (z3 : w.frozen? ⟨bn, 0, none⟩ = false) (hne : ¬ bn = bl) :
    CallsD Tryd.prog 41 #[.pointer (some ⟨be, 0, none⟩), .pointer (some ⟨bl, 0, none⟩), .pointer (some ⟨bn, 0, none⟩)] u w fun e u' w' => u' = u ∧ e = .returned (.tuple #[]) ∧ w' = (w.setCell ⟨bl, 0, none⟩ (.slice none 0 0)).setCell ⟨bn, 0, none⟩ (.int .i64 0) := by
  have hz : (c == 0) = false := by simpa using hc
  have hz' : (c != 0) = true := by simpa using hc
  obtain ⟨q, k, m, h2⟩ : ∃ q k m, w.cell? ⟨bl, 0, none⟩ = some (.slice q k m) := by
    rcases h2 with h2 | h2
    · exact ⟨_, _, _, h2⟩
    · exact h2
  have hne' : ¬ bl = bn := fun h => hne h.symm
  go_enter_d Tryd.func41, Tryd.ntmps41
  go_wp2_with fail
  go_end0
  exact ⟨rfl, rfl⟩
theorem strike_ok (be bl bn : Nat) (u : FrameMode) (w : World) (h1 : w.cell? ⟨be, 0, none⟩ = some (.int .i64 0)) :
    CallsD Tryd.prog 41 #[.pointer (some ⟨be, 0, none⟩), .pointer (some ⟨bl, 0, none⟩), .pointer (some ⟨bn, 0, none⟩)] u w fun e u' w' => u' = u ∧ e = .returned (.tuple #[]) ∧ w' = w := by
  go_enter_d Tryd.func41, Tryd.ntmps41
  go_wp2_with fail
  go_end0
  exact ⟨rfl, rfl⟩
end Go.Proofs.YtopdgmchkoaeeaaDoor
namespace Go.Proofs.YtopdgmchkoaeeaaDoor
open Go.RowKit
set_option linter.unusedVariables false
set_option linter.unusedSimpArgs false

/-- A region's post, weakened to 'it does not panic': for a region that draws its order, in a function that defers. -/
def calmQ (Q : Exit → Act → World → Prop) : Exit → Act → World → Prop
  | .panic _, _, _ => False
  | e, a, w => Q e a w
theorem wp_calm {P : Program} {c : Code} {Q : Exit → Act → World → Prop} {a : Act} {w : World} (h : c.wp P (calmQ Q) a w) : c.wp P Q a w :=
  wp_mono h (fun e a w h => by cases e <;> first | exact h | exact False.elim h)
theorem calm_normal {Q : Exit → Act → World → Prop} {a : Act} {w : World} (h : Q .normal a w) : calmQ Q .normal a w := h
/-- Bytes that came in. -/
structure BytesAt (w : World) (q : Option Addr) (cap : Nat) (l : List UInt8) : Prop where
  bytes : ∀ k (h : k < l.length), ∃ b o, q = some ⟨b, o, none⟩ ∧ w.cell? ⟨b, o + k, none⟩ = some (.int .u8 (l[k].toNat : Int))
  len : l.length ≤ 9223372036854775807
  slot : (q = none ∧ cap = 0) ∨ ∃ b o, q = some ⟨b, o, none⟩ ∧ b < w.heap.size
  room : l.length ≤ cap ∧ cap ≤ 9223372036854775807
theorem BytesAt.ext {w w' : World} {q : Option Addr} {cap : Nat} {l : List UInt8} (h : BytesAt w q cap l) (he : Ext w w') : BytesAt w' q cap l :=
  ⟨fun k hk => let ⟨b, o, e, c⟩ := h.bytes k hk; ⟨b, o, e, he.cell c⟩, h.len, h.slot.imp id (fun ⟨b, o, e, hb⟩ => ⟨b, o, e, Nat.lt_of_lt_of_le hb he.le⟩), h.room⟩
theorem BytesAt.reader {w w' : World} {q : Option Addr} {cap : Nat} {l : List UInt8} {g : Nat} {p t i : Int} (h : BytesAt w q cap l) (he : Ext w w') (hg : w.heap.size ≤ g) (hb : Blk w' g 85 #[.slice q l.length cap, .int .i64 p, .int .i64 t, .int .i64 i]) : InAt w' g q cap l p t i :=
  ⟨hb, fun k hk => let ⟨b, o, e, c⟩ := h.bytes k hk; ⟨b, o, e, by have := cell_lt c; simp only at this; omega, he.cell c⟩, h.len, h.slot.imp id (fun ⟨b, o, e, hb⟩ => ⟨b, o, e, by omega⟩), h.room⟩

/-- The three answers of Parse, in blocks of their own. -/
structure Faces (w : World) (B : Nat) (v : Value) (n c : Int) : Prop where
  l : Blk w B 22 #[v]
  n : Blk w (B + 1) 3 #[.int .i64 n]
  e : Blk w (B + 1 + 1) 26 #[.int .i64 c]
theorem Faces.ext {w w' : World} {B : Nat} {v : Value} {n c : Int} (h : Faces w B v n c) (he : Ext w w') : Faces w' B v n c := ⟨h.l.ext he, h.n.ext he, h.e.ext he⟩
theorem Faces.only {w w' : World} {B g : Nat} {v : Value} {n c : Int} (h : Faces w B v n c) (he : Only g w w') (hg : B + 1 + 1 < g) : Faces w' B v n c := ⟨h.l.only he (by omega), h.n.only he (by omega), h.e.only he (by omega)⟩

set_option maxRecDepth 100000 in
set_option maxHeartbeats 1000000 in
theorem parse_door (w w' : World) (B : Nat) (q : Option Addr) (k m : Nat) (n c : Int) (hc : ¬ c = 0) (hF : Faces w' B (.slice q k m) n 0) (he : Ext w w') (hB : w.heap.size ≤ B) (R : Ending → World → Prop)
    (hR : ∀ w'', Ext w w'' → R (.returned (.tuple #[.slice none 0 0, .int .i64 0, .int .i64 c])) w'') (x0 x1 x5 x6 x7 x8 x9 x10 x11 x12 x13 x14 x15 x16 x17 x18 x19 x20 x21 x22 x23 x24 x25 x26 x27 x28 : Value) :
    Leaves Tryd.prog Tryd.f18 #[x0, x1, .pointer (some ⟨B, 0, none⟩), .pointer (some ⟨B + 1, 0, none⟩), .pointer (some ⟨B + 1 + 1, 0, none⟩), x5, x6, x7, x8, x9, x10, x11, x12, x13, x14, x15, x16, x17, x18, x19, x20, x21, x22, x23, x24, x25, x26, x27, x28] R
      [{ target := Target.fn (Fn.func 42) #[], args := #[.pointer (some ⟨B + 1 + 1, 0, none⟩)] },
       { target := Target.fn (Fn.func 41) #[.pointer (some ⟨B + 1 + 1, 0, none⟩), .pointer (some ⟨B, 0, none⟩), .pointer (some ⟨B + 1, 0, none⟩)], args := #[] }] (.panicking [{ v := failV c, recovered := false }]) w' := by
  have e0 := hF.e.cell 0
  have l0 := hF.l.cell 0
  have n0 := hF.n.cell 0
  have ez := hF.e.frozen 0
  simp only [List.getElem?_toArray, List.getElem?_cons_zero, List.getElem?_cons_succ] at e0 l0 n0
  refine leaves_cons (f := 42) (args := #[.pointer (some ⟨B + 1 + 1, 0, none⟩)]) (by simp) (by simp [go_sem]) ?_
  refine (caught_panic c 0 (B + 1 + 1) [] w' e0 ez).mono ?_
  rintro e u' w1 ⟨rfl, rfl, rfl⟩
  have e1 : Ext w ((w'.setCell ⟨B + 1 + 1, 0, none⟩ (.int .i64 c)).alloc (.cells #[.int .i64 c] 107)) := (he.setCell (by show w.heap.size ≤ B + 1 + 1; omega) _).alloc _
  have le : Blk ((w'.setCell ⟨B + 1 + 1, 0, none⟩ (.int .i64 c)).alloc (.cells #[.int .i64 c] 107)) (B + 1 + 1) 26 #[.int .i64 c] := Blk.alloc (by simpa using hF.e.set_ 0 (.int .i64 c)) _
  have ll : Blk ((w'.setCell ⟨B + 1 + 1, 0, none⟩ (.int .i64 c)).alloc (.cells #[.int .i64 c] 107)) B 22 #[.slice q k m] := (hF.l.far (by show ¬ B = B + 1 + 1; omega) _).alloc _
  have ln : Blk ((w'.setCell ⟨B + 1 + 1, 0, none⟩ (.int .i64 c)).alloc (.cells #[.int .i64 c] 107)) (B + 1) 3 #[.int .i64 n] := (hF.n.far (by show ¬ B + 1 = B + 1 + 1; omega) _).alloc _
  generalize (w'.setCell ⟨B + 1 + 1, 0, none⟩ (.int .i64 c)).alloc (.cells #[.int .i64 c] 107) = w2 at e1 le ll ln ⊢
  show Leaves _ _ _ _ _ (settle _) w2
  have hs : settle (.panicking [{ v := failV c, recovered := true }]) = .returning := rfl
  rw [hs]
  refine leaves_cons (f := 41) (args := #[.pointer (some ⟨B + 1 + 1, 0, none⟩), .pointer (some ⟨B, 0, none⟩), .pointer (some ⟨B + 1, 0, none⟩)]) (by simp) (by simp [go_sem]) ?_
  refine (strike_err (B + 1 + 1) B (B + 1) c .nilIface n .returning w2 hc (le.cell 0) (.inr ⟨_, _, _, ll.cell 0⟩) (ln.cell 0) (ll.frozen 0) (ln.frozen 0) (by omega)).mono ?_
  rintro e u' w3 ⟨rfl, rfl, rfl⟩
  have e3 : Ext w ((w2.setCell ⟨B, 0, none⟩ (.slice none 0 0)).setCell ⟨B + 1, 0, none⟩ (.int .i64 0)) := (e1.setCell hB _).setCell (by show w.heap.size ≤ B + 1; omega) _
  have me : Blk ((w2.setCell ⟨B, 0, none⟩ (.slice none 0 0)).setCell ⟨B + 1, 0, none⟩ (.int .i64 0)) (B + 1 + 1) 26 #[.int .i64 c] := (le.far (by show ¬ B + 1 + 1 = B; omega) _).far (by show ¬ B + 1 + 1 = B + 1; omega) _
  have ml : Blk ((w2.setCell ⟨B, 0, none⟩ (.slice none 0 0)).setCell ⟨B + 1, 0, none⟩ (.int .i64 0)) B 22 #[.slice none 0 0] := Blk.far (by simpa using ll.set_ 0 (.slice none 0 0)) (by show ¬ B = B + 1; omega) _
  have mn : Blk ((w2.setCell ⟨B, 0, none⟩ (.slice none 0 0)).setCell ⟨B + 1, 0, none⟩ (.int .i64 0)) (B + 1) 3 #[.int .i64 0] := by simpa using (ln.far (p := ⟨B, 0, none⟩) (by show ¬ B + 1 = B; omega) (.slice none 0 0)).set_ 0 (.int .i64 0)
  generalize (w2.setCell ⟨B, 0, none⟩ (.slice none 0 0)).setCell ⟨B + 1, 0, none⟩ (.int .i64 0) = w4 at e3 me ml mn ⊢
  have d1 := me.cell 0
  have d2 := ml.cell 0
  have d3 := mn.cell 0
  simp only [List.getElem?_toArray, List.getElem?_cons_zero, List.getElem?_cons_succ] at d1 d2 d3
  have hR' := hR w4 e3
  simp [Leaves, settle, results, Tryd.results18, go_sem, d1, d2, d3]
  exact hR'
set_option maxRecDepth 100000 in
set_option maxHeartbeats 1000000 in
theorem parse_done (w' : World) (B : Nat) (v : Value) (n : Int) (hF : Faces w' B v n 0) (hv : ∃ q k m, v = .slice q k m) (R : Ending → World → Prop)
    (hR : R (.returned (.tuple #[v, .int .i64 n, .int .i64 0])) w') (x0 x1 x5 x6 x7 x8 x9 x10 x11 x12 x13 x14 x15 x16 x17 x18 x19 x20 x21 x22 x23 x24 x25 x26 x27 x28 : Value) :
    Leaves Tryd.prog Tryd.f18 #[x0, x1, .pointer (some ⟨B, 0, none⟩), .pointer (some ⟨B + 1, 0, none⟩), .pointer (some ⟨B + 1 + 1, 0, none⟩), x5, x6, x7, x8, x9, x10, x11, x12, x13, x14, x15, x16, x17, x18, x19, x20, x21, x22, x23, x24, x25, x26, x27, x28] R
      [{ target := Target.fn (Fn.func 42) #[], args := #[.pointer (some ⟨B + 1 + 1, 0, none⟩)] },
       { target := Target.fn (Fn.func 41) #[.pointer (some ⟨B + 1 + 1, 0, none⟩), .pointer (some ⟨B, 0, none⟩), .pointer (some ⟨B + 1, 0, none⟩)], args := #[] }] .returning w' := by
  have e0 := hF.e.cell 0
  have l0 := hF.l.cell 0
  have n0 := hF.n.cell 0
  simp only [List.getElem?_toArray, List.getElem?_cons_zero, List.getElem?_cons_succ] at e0 l0 n0
  obtain ⟨q, k, m, rfl⟩ := hv
  refine leaves_cons (f := 42) (args := #[.pointer (some ⟨B + 1 + 1, 0, none⟩)]) (by simp) (by simp [go_sem]) ?_
  refine (caught_idle (B + 1 + 1) w').mono ?_
  rintro e u' w1 ⟨rfl, rfl, rfl⟩
  show Leaves _ _ _ _ _ (settle _) w1
  have hs : settle .returning = .returning := rfl
  rw [hs]
  refine leaves_cons (f := 41) (args := #[.pointer (some ⟨B + 1 + 1, 0, none⟩), .pointer (some ⟨B, 0, none⟩), .pointer (some ⟨B + 1, 0, none⟩)]) (by simp) (by simp [go_sem]) ?_
  refine (strike_ok (B + 1 + 1) B (B + 1) .returning w1 e0).mono ?_
  rintro e u' w3 ⟨rfl, rfl, rfl⟩
  simp [Leaves, settle, results, Tryd.results18, go_sem, e0, l0, n0]
  exact hR

/-- Texts in blocks from a number on. -/
def TextsFrom (base : Nat) (w : World) (v : Value) (ts : List ByteArray) : Prop :=
  ∃ (q : Option Addr) (c : Nat), v = .slice q ts.length c ∧ (0 < ts.length → ∃ b, q = some ⟨b, 0, none⟩ ∧ base ≤ b ∧ ∀ i (h : i < ts.length), w.cell? ⟨b, i, none⟩ = some (.string ts[i]))
theorem texts_of_row {w : World} {base : Nat} {v : Value} {n : Nat} {ts : List ByteArray} (h : w.ownsRow base 9 1 v n (ts.map Value.string)) : TextsFrom base w v ts := by
  obtain ⟨hl, h⟩ := h
  have hn : ts.length = n := by simpa using hl
  rcases h with ⟨rfl, h0⟩ | ⟨g, cap, cur, rfl, hb, hh, hnc, hcap, hsz, htk⟩
  · exact ⟨none, 0, by rw [hn, h0], fun h => by omega⟩
  · refine ⟨_, cap, by rw [hn], fun h => ⟨g, rfl, hb, fun i hi => ?_⟩⟩
    have h1 : (cur.toList.take (n * 1))[i]? = (ts.map Value.string)[i]? := by rw [htk]
    rw [List.getElem?_take_of_lt (by omega), List.getElem?_map, List.getElem?_eq_getElem hi] at h1
    have := cell_of_row w g i cur 9 (0, 0) hh
    rw [this]
    simpa using h1
theorem TextsFrom.low {base : Nat} {w w' : World} {v : Value} {ts : List ByteArray} (h : TextsFrom base w v ts) (hc : ∀ b o x, base ≤ b → w.cell? ⟨b, o, none⟩ = some x → w'.cell? ⟨b, o, none⟩ = some x) : TextsFrom base w' v ts := by
  obtain ⟨q, c, e, h⟩ := h
  exact ⟨q, c, e, fun hl => let ⟨b, e, hb, hx⟩ := h hl; ⟨b, e, hb, fun i hi => hc _ _ _ hb (hx i hi)⟩⟩
theorem bulk_pos {l : List UInt8} {t p : Nat} {x : ByteArray × Nat} (hp : p ≤ l.length) (h : bulkS l t p = .ok x) : x.1.size ≤ t ∧ p ≤ x.2 ∧ x.2 ≤ l.length := by
  unfold bulkS at h
  cases hn : numS l 0 t (l.length - p) 0 0 p with
  | error e => rw [hn] at h; cases h
  | ok y =>
    rw [hn] at h
    obtain ⟨n, q⟩ := y
    have hb := num_pos _ _ _ _ _ hp (by omega) hn
    have h1 : n ≤ t := hb.1
    have h2 : p ≤ q := hb.2.1
    have h3 : q ≤ l.length := hb.2.2
    replace h : textS l n q = .ok x := h
    unfold textS at h
    split at h
    · rename_i hle
      cases hs : skipS l [13, 10] (q + n) with
      | error e => rw [hs] at h; cases h
      | ok r =>
        rw [hs] at h
        cases h
        have := skip_pos _ _ _ hle hs
        exact ⟨by show (cutS l q n).size ≤ t; rw [cut_size l q n hle]; exact h1, by show p ≤ r; omega, by show r ≤ l.length; omega⟩
    · cases h

/-- What Parse tells. -/
def ParseE (w : World) (r : Except Int (List ByteArray × Nat)) (e : Ending) (w' : World) : Prop :=
  match r with
  | .ok x => ∃ v, e = .returned (.tuple #[v, .int .i64 (x.2 : Int), .int .i64 0]) ∧ TextsFrom w.heap.size w' v x.1 ∧ Ext w w'
  | .error c => e = .returned (.tuple #[.slice none 0 0, .int .i64 0, .int .i64 c]) ∧ Ext w w'
theorem ParseE.err {w w' : World} {r : Except Int (List ByteArray × Nat)} {e : Ending} {c : Int} (hr : r = .error c) (he : e = .returned (.tuple #[.slice none 0 0, .int .i64 0, .int .i64 c])) (h : Ext w w') : ParseE w r e w' := by
  subst hr; exact ⟨he, h⟩
theorem ParseE.ok {w w' : World} {r : Except Int (List ByteArray × Nat)} {e : Ending} {x : List ByteArray × Nat} (hr : r = .ok x) (h : ∃ v, e = .returned (.tuple #[v, .int .i64 (x.2 : Int), .int .i64 0]) ∧ TextsFrom w.heap.size w' v x.1 ∧ Ext w w') : ParseE w r e w' := by
  subst hr; exact h
theorem skip_err {l : List UInt8} : ∀ (s : List UInt8) (p : Nat) (c : Int), skipS l s p = .error c → c = 130 ∨ c = 131
  | [], p, c, h => by simp only [skipS] at h; cases h
  | x :: s, p, c, h => by
    simp only [skipS] at h
    split at h
    · split at h
      · exact skip_err s _ c h
      · cases h; exact .inr rfl
    · cases h; exact .inl rfl
theorem num_err {l : List UInt8} {a b : Nat} : ∀ (k m n p : Nat) (c : Int), numS l a b k m n p = .error c → c = 130 ∨ c = 131
  | 0, m, n, p, c, h => by simp only [numS] at h; cases h; exact .inl rfl
  | k + 1, m, n, p, c, h => by
    simp only [numS] at h
    split at h
    · split at h
      · cases hs : skipS l [10] (p + 1) with
        | error e => rw [hs] at h; cases h; exact skip_err _ _ _ hs
        | ok q => rw [hs] at h; cases h
      · split at h
        · cases h; exact .inr rfl
        · split at h
          · exact num_err k _ _ _ c h
          · cases h; exact .inr rfl
    · cases h; exact .inl rfl
theorem text_err {l : List UInt8} {n p : Nat} {c : Int} (h : textS l n p = .error c) : c = 130 ∨ c = 131 := by
  unfold textS at h
  split at h
  · cases hs : skipS l [13, 10] (p + n) with
    | error e => rw [hs] at h; cases h; exact skip_err _ _ _ hs
    | ok q => rw [hs] at h; cases h
  · cases h; exact .inl rfl
theorem bulk_err {l : List UInt8} {t p : Nat} {c : Int} (h : bulkS l t p = .error c) : c = 130 ∨ c = 131 := by
  unfold bulkS at h
  cases hn : numS l 0 t (l.length - p) 0 0 p with
  | error e => rw [hn] at h; cases h; exact num_err _ _ _ _ _ hn
  | ok y => rw [hn] at h; exact text_err h
end Go.Proofs.YtopdgmchkoaeeaaDoor
