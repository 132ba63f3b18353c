/- few tells some Bool; how the laws of a world end. -/
import Derived.Test.YtfagldjhibdfhaaGreatDoorYLwU
import Derived.Test.YtfagldjhibdfhaaGreatDoorYLwV
namespace Go.Proofs.YtfagldjhibdfhaaGreatDoor
open Go.RowKit
set_option linter.unusedVariables false
set_option linter.unusedSimpArgs false

theorem ZV.blk {w : World} {b : Nat} (h : ZV w b) : Blk w b 26 #[.int .i64 0, .int .i64 0, .string ⟨#[]⟩] := h
theorem Ext.of_drew {w w' : World} (h : Ext w.drew w') : Ext w w' := (Ext.refl w).drew.trans h
theorem Ext.of_alloc {w w' : World} {o : Obj} (h : Ext (w.alloc o) w') : Ext w w' := ((Ext.refl w).alloc o).trans h
theorem Blk.new' {w : World} {k : Nat} {t : TypeId} {cs : Array Value} (h : k = w.heap.size) : Blk (w.alloc (.cells cs t)) k t cs := by subst h; exact Blk.new _ _ _
theorem Blk.put3 {w : World} {k : Nat} {t : TypeId} {x y z : Value} (h : Blk w k t #[x, y, z]) (a b c : Value) : Blk (((w.setCell ⟨k, 0, none⟩ a).setCell ⟨k, 1, none⟩ b).setCell ⟨k, 2, none⟩ c) k t #[a, b, c] := by
 have h1 := ((h.set_ 0 a).set_ 1 b).set_ 2 c
 simpa using h1
theorem Ext.put3 {w0 w : World} {k : Nat} (h : Ext w0 w) (hk : w0.heap.size ≤ k) (a b c : Value) : Ext w0 (((w.setCell ⟨k, 0, none⟩ a).setCell ⟨k, 1, none⟩ b).setCell ⟨k, 2, none⟩ c) :=
 ((h.setCell (p := ⟨k, 0, none⟩) hk a).setCell (p := ⟨k, 1, none⟩) hk b).setCell (p := ⟨k, 2, none⟩) hk c
theorem RowB.any {w : World} {B : Nat} {v : Value} {l : List Vl} (h : RowB w B v l) : ∃ q c, v = .slice q l.length c ∧ ValsAt w q l ∧ (q = none → c = 0 ∧ l = []) := by
 by_cases hl : l = []
 ·subst hl
  obtain ⟨_, hrow⟩ := h
  rcases hrow with ⟨e, h0⟩ | ⟨g, cap, cur, e1, hb, hc, h2, h3, _⟩
  ·exact ⟨none, 0, e, fun i x hx => by simp at hx, fun _ => ⟨rfl, rfl⟩⟩
  ·exact ⟨_, _, e1, fun i x hx => by simp at hx, fun h => by cases h⟩
 ·obtain ⟨k, cap, o, e, _⟩ := h.form hl
  subst e
  exact ⟨_, _, rfl, h.vals, fun h => by cases h⟩
theorem blk2 {w : World} {k : Nat} {t : TypeId} {a b : Value} (h : Blk w k t #[a, b]) : w.cell? ⟨k, 0, none⟩ = some a ∧ w.cell? ⟨k, 1, none⟩ = some b ∧ k < w.heap.size ∧ k < w.heap.size + 1 ∧ ¬ w.heap.size = k ∧ ¬ k = w.heap.size ∧ ¬ w.heap.size + 1 = k ∧ ¬ k = w.heap.size + 1 := by
 have := h.lt
 exact ⟨h.cell 0, h.cell 1, this, by omega, by omega, by omega, by omega, by omega⟩
theorem blk3 {w : World} {k : Nat} {t : TypeId} {a b c : Value} (h : Blk w k t #[a, b, c]) : w.cell? ⟨k, 0, none⟩ = some a ∧ w.cell? ⟨k, 1, none⟩ = some b ∧ w.cell? ⟨k, 2, none⟩ = some c ∧ k < w.heap.size ∧ k < w.heap.size + 1 ∧ ¬ w.heap.size = k ∧ ¬ k = w.heap.size ∧ ¬ w.heap.size + 1 = k ∧ ¬ k = w.heap.size + 1 := by
 have := h.lt
 exact ⟨h.cell 0, h.cell 1, h.cell 2, this, by omega, by omega, by omega, by omega, by omega⟩
theorem blk5 {w : World} {k : Nat} {t : TypeId} {a b c d e : Value} (h : Blk w k t #[a, b, c, d, e]) : w.cell? ⟨k, 0, none⟩ = some a ∧ w.cell? ⟨k, 1, none⟩ = some b ∧ w.cell? ⟨k, 2, none⟩ = some c ∧ w.cell? ⟨k, 3, none⟩ = some d ∧ w.cell? ⟨k, 4, none⟩ = some e ∧ k < w.heap.size ∧ k < w.heap.size + 1 ∧ ¬ w.heap.size = k ∧ ¬ k = w.heap.size ∧ ¬ w.heap.size + 1 = k ∧ ¬ k = w.heap.size + 1 := by
 have := h.lt
 exact ⟨h.cell 0, h.cell 1, h.cell 2, h.cell 3, h.cell 4, this, by omega, by omega, by omega, by omega, by omega⟩
theorem two_few {a b : Vl} : [a, b].length ≤ 1000000000 := by simp
set_option maxRecDepth 100000 in
set_option maxHeartbeats 8000000 in
theorem few_some (w : World) (c : Int) (q : Option Addr) (cap : Nat) (ts : List Tb) (ht : TablesAt w q ts) (hn : ts.length ≤ maxLen) (hi : ∀ T ∈ ts, T.length ≤ maxLen) :
  Calls Tryz.prog 24 #[.agg #[.int .i64 c, .slice q ts.length cap]] w (HvE w) := by
 have mx : maxLen ≤ 9223372036854775807 := by decide
 obtain ⟨n, hnn⟩ : ∃ n, ts.length = n := ⟨_, rfl⟩
 have HTS := Lib.hid ht
 have HNN := Lib.hid hnn
 have HIT := Lib.hid hi
 rw [hnn] at hn ⊢
 have hnI : (n : Int) ≤ 9223372036854775807 := by omega
 clear ht hnn hi hn
 go_enter Tryz.func24, Tryz.ntmps24
 have HE0 := Lib.hid ((Ext.refl w).alloc (.cells #[.int .i64 c, .slice q n cap] 41))
 have HBX := Lib.hid (Blk.new w 41 #[.int .i64 c, .slice q n cap])
 have hsz : (w.alloc (.cells #[.int .i64 c, .slice q n cap] 41)).heap.size = w.heap.size + 1 := size_alloc _ _
 have HT1 := Lib.hid (HTS.out.ext HE0.out)
 go_wp2_with fail
 generalize w.alloc (.cells #[.int .i64 c, .slice q n cap] 41) = W1 at *
 obtain ⟨B0, hB0⟩ : ∃ B0, w.heap.size = B0 := ⟨_, rfl⟩
 rw [hB0] at HBX hsz ⊢
 clear hB0 hsz
 have AB := Lib.hid (HBX.out.cell 1 : W1.cell? ⟨B0, 1, none⟩ = some (.slice q n cap))
 have hB : B0 < W1.heap.size := HBX.out.lt
 clear HBX HTS
 go_loopw [3, 4] (fun s3 s4 wr => ∃ (i : Nat) (z : Int), s3 = .int .i64 z ∧ s4 = .int .i64 (i : Int) ∧ i ≤ n ∧ Hid (Ext W1 wr)) (fun _ s4 _ => n - (intOf s4).toNat)
 case atStart => exact ⟨0, 0, rfl, rfl, Nat.zero_le _, Lib.hid (Ext.refl _)⟩
 case round =>
  obtain ⟨i, z, rfl, rfl, hi, HE⟩ := hrel
  have y1 := (HE.out.cells.1 _ _ hB).trans AB.out
  have hBl : B0 < wr.heap.size := Nat.lt_of_lt_of_le hB HE.out.le
  have hi0 : (0 : Int) ≤ (i : Int) := by omega
  by_cases hlt : i < n
  ·have hd : decide ((i : Int) < (n : Int)) = true := decide_eq_true (by omega)
   have hd' : decide (i < n) = true := decide_eq_true hlt
   have hltI : (i : Int) < (n : Int) := by omega
   by_cases hz : z ≤ 3000
   ·have t1 : decide (z ≤ 3000) = true := decide_eq_true hz
    obtain ⟨T, hT⟩ : ∃ T, (ts : List Tb)[i]? = some T := ⟨_, List.getElem?_eq_getElem (by have := HNN.out; omega)⟩
    obtain ⟨b, o, qi, ci, hq, hb, hcell, hit⟩ := HT1.out i T hT
    subst hq
    have HIT1 := Lib.hid hit
    obtain ⟨m, hm⟩ : ∃ m, T.length = m := ⟨_, rfl⟩
    have hmx : (m : Int) ≤ 9223372036854775807 := by have := HIT.out T (List.mem_of_getElem? hT); omega
    have HMM := Lib.hid hm
    rw [hm] at hcell
    have HCE := Lib.hid hcell
    clear hT hcell hit hm hz
    go_wp2_with fail
    clear y1 hBl t1
    go_loopw [3, 5] (fun s3 s5 wr => ∃ (k : Nat) (z : Int), s3 = .int .i64 z ∧ s5 = .int .i64 (k : Int) ∧ k ≤ m ∧ Hid (Ext W1 wr)) (fun _ s5 _ => m - (intOf s5).toNat)
    case atStart => exact ⟨0, _, rfl, rfl, Nat.zero_le _, HE⟩
    case round =>
     obtain ⟨k, z, rfl, rfl, hk, HE⟩ := hrel
     have y1 := (HE.out.cells.1 _ _ hB).trans AB.out
     have hBl : B0 < wr.heap.size := Nat.lt_of_lt_of_le hB HE.out.le
     have y2 := (HE.out.cells.1 _ _ hb).trans HCE.out
     have hbl : b < wr.heap.size := Nat.lt_of_lt_of_le hb HE.out.le
     have hk0 : (0 : Int) ≤ (k : Int) := by omega
     by_cases hltk : k < m
     ·have hdk : decide ((k : Int) < (m : Int)) = true := decide_eq_true (by omega)
      have hdk' : decide (k < m) = true := decide_eq_true hltk
      have hltkI : (k : Int) < (m : Int) := by omega
      by_cases hz : z ≤ 3000
      ·have t1 : decide (z ≤ 3000) = true := decide_eq_true hz
       obtain ⟨x, hx⟩ : ∃ x, T[k]? = some x := ⟨_, List.getElem?_eq_getElem (by have := HMM.out; omega)⟩
       obtain ⟨b2, o2, hq2, ak, av⟩ := HIT1.out k x hx
       subst hq2
       have hb2 : b2 < W1.heap.size := ak.lt
       have hb2l : b2 < wr.heap.size := Nat.lt_of_lt_of_le hb2 HE.out.le
       obtain ⟨⟨xk, xn, xs⟩, ⟨vk, vn, vs⟩⟩ := x
       have z0 := (HE.out.cells.1 _ _ hb2).trans ak.k
       have z1 := (HE.out.cells.1 _ _ hb2).trans ak.n
       have z2 := (HE.out.cells.1 _ _ hb2).trans ak.s
       have v0 := (HE.out.cells.1 _ _ hb2).trans av.k
       have v1 := (HE.out.cells.1 _ _ hb2).trans av.n
       have v2 := (HE.out.cells.1 _ _ hb2).trans av.s
       simp only at z0 z1 z2 v0 v1 v2
       clear hx ak av hz
       go_wp2_with fail
       go_region_held3 (fun w' => w'.cell? ⟨B0, 1, none⟩ = some (.slice (some ⟨b, o, none⟩) n cap) ∧ w'.cell? ⟨b, o + i, none⟩ = some (.slice (some ⟨b2, o2, none⟩) m ci) ∧ w'.cell? ⟨b2, o2 + k * 6, none⟩ = some (.int .i64 xk) ∧ w'.cell? ⟨b2, o2 + k * 6 + 1, none⟩ = some (.int .i64 xn) ∧ w'.cell? ⟨b2, o2 + k * 6 + 2, none⟩ = some (.string xs) ∧ w'.cell? ⟨b2, o2 + k * 6 + 3, none⟩ = some (.int .i64 vk) ∧ w'.cell? ⟨b2, o2 + k * 6 + 3 + 1, none⟩ = some (.int .i64 vn) ∧ w'.cell? ⟨b2, o2 + k * 6 + 3 + 2, none⟩ = some (.string vs)) (go_keep)
        (first | (go_at_call 21; (with_reducible refine Calls.mono (size_some (some ⟨wr.heap.size, 0, none⟩) [⟨xk, xn, xs⟩, ⟨vk, vn, vs⟩] 2 z _ (blk_vals (cs := #[.int .i64 xk, .int .i64 xn, .string xs, .int .i64 vk, .int .i64 vn, .string vs]) (Blk.new _ _ _).drew rfl) two_few) ?_); rintro e w6 ⟨⟨z6, rfl⟩, rfl⟩))
       all_goals go_wp2_with fail
       all_goals (
        go_roundw
        case rel => exact ⟨k + 1, _, rfl, by go_num, by omega, Lib.hid ((HE.out.alloc _).drew)⟩
        case measure => simp [intOf]; omega)
      ·have t1 : decide (z ≤ 3000) = false := decide_eq_false hz
       go_wp2_with fail
       go_roundw
       case rel => exact ⟨i + 1, _, rfl, by go_num, by omega, HE⟩
       case measure => simp [intOf]; omega
     ·obtain rfl : k = m := by omega
      have hdk : decide ((k : Int) < (k : Int)) = false := decide_eq_false (by omega)
      have hdk' : decide (k < k) = false := decide_eq_false (by omega)
      go_wp2_with fail
      go_roundw
      case rel => exact ⟨i + 1, _, rfl, by go_num, by omega, HE⟩
      case measure => simp [intOf]; omega
   ·have t1 : decide (z ≤ 3000) = false := decide_eq_false hz
    go_wp2_with fail
    go_ret
    exact ⟨⟨_, rfl⟩, HE0.out.trans HE.out⟩
  ·obtain rfl : i = n := by omega
   have hd : decide ((i : Int) < (i : Int)) = false := decide_eq_false (by omega)
   have hd' : decide (i < i) = false := decide_eq_false (by omega)
   go_wp2_with fail
   go_ret
   exact ⟨⟨_, rfl⟩, HE0.out.trans HE.out⟩
end Go.Proofs.YtfagldjhibdfhaaGreatDoor
