/- few tells some Bool; how the laws of a world end. -/
import Derived.Test.YtfagldjhibdfhaaGreatDoorYLwU
import Derived.Test.YtfagldjhibdfhaaGreatDoorYLwV
namespace Go.Proofs.YtfagldjhibdfhaaGreatDoor
open Go.RowKit
set_option linter.unusedVariables false
set_option linter.unusedSimpArgs false

theorem two_few {a b : Vl} : [a, b].length ≤ 1000000000 := by simp
set_option maxRecDepth 100000 in
set_option maxHeartbeats 8000000 in
theorem few_some (w : World) (c : Int) (q : Option Addr) (cap : Nat) (ts : List Tb) (ht : TablesAt w q ts) (hn : ts.length ≤ maxLen) (hi : ∀ T ∈ ts, T.length ≤ maxLen) :
  Calls Tryz.prog 24 #[.agg #[.int .i64 c, .slice q ts.length cap]] w (HvE w) := by
 have mx : maxLen ≤ 9223372036854775807 := by decide
 obtain ⟨n, hnn⟩ : ∃ n, ts.length = n := ⟨_, rfl⟩
 have HTS := Lib.hid ht
 have HNN := Lib.hid hnn
 have HIT := Lib.hid hi
 rw [hnn] at hn ⊢
 have hnI : (n : Int) ≤ 9223372036854775807 := by omega
 clear ht hnn hi hn
 go_enter Tryz.func24, Tryz.ntmps24
 have HE0 := Lib.hid ((Ext.refl w).alloc (.cells #[.int .i64 c, .slice q n cap] 41))
 have HBX := Lib.hid (Blk.new w 41 #[.int .i64 c, .slice q n cap])
 have hsz : (w.alloc (.cells #[.int .i64 c, .slice q n cap] 41)).heap.size = w.heap.size + 1 := size_alloc _ _
 have HT1 := Lib.hid (HTS.out.ext HE0.out)
 go_wp2_with fail
 generalize w.alloc (.cells #[.int .i64 c, .slice q n cap] 41) = W1 at *
 obtain ⟨B0, hB0⟩ : ∃ B0, w.heap.size = B0 := ⟨_, rfl⟩
 rw [hB0] at HBX hsz ⊢
 clear hB0 hsz
 have AB := Lib.hid (HBX.out.cell 1 : W1.cell? ⟨B0, 1, none⟩ = some (.slice q n cap))
 have hB : B0 < W1.heap.size := HBX.out.lt
 clear HBX HTS
 go_loopw [3, 4] (fun s3 s4 wr => ∃ (i : Nat) (z : Int), s3 = .int .i64 z ∧ s4 = .int .i64 (i : Int) ∧ i ≤ n ∧ Hid (Ext W1 wr)) (fun _ s4 _ => n - (intOf s4).toNat)
 case atStart => exact ⟨0, 0, rfl, rfl, Nat.zero_le _, Lib.hid (Ext.refl _)⟩
 case round =>
  obtain ⟨i, z, rfl, rfl, hi, HE⟩ := hrel
  have y1 := (HE.out.cells.1 _ _ hB).trans AB.out
  have hBl : B0 < wr.heap.size := Nat.lt_of_lt_of_le hB HE.out.le
  have hi0 : (0 : Int) ≤ (i : Int) := by omega
  by_cases hlt : i < n
  ·have hd : decide ((i : Int) < (n : Int)) = true := decide_eq_true (by omega)
   have hd' : decide (i < n) = true := decide_eq_true hlt
   have hltI : (i : Int) < (n : Int) := by omega
   by_cases hz : z ≤ 3000
   ·have t1 : decide (z ≤ 3000) = true := decide_eq_true hz
    obtain ⟨T, hT⟩ : ∃ T, (ts : List Tb)[i]? = some T := ⟨_, List.getElem?_eq_getElem (by have := HNN.out; omega)⟩
    obtain ⟨b, o, qi, ci, hq, hb, hcell, hit⟩ := HT1.out i T hT
    subst hq
    have HIT1 := Lib.hid hit
    obtain ⟨m, hm⟩ : ∃ m, T.length = m := ⟨_, rfl⟩
    have hmx : (m : Int) ≤ 9223372036854775807 := by have := HIT.out T (List.mem_of_getElem? hT); omega
    have HMM := Lib.hid hm
    rw [hm] at hcell
    have HCE := Lib.hid hcell
    clear hT hcell hit hm hz
    go_wp2_with fail
    clear y1 hBl t1
    go_loopw [3, 5] (fun s3 s5 wr => ∃ (k : Nat) (z : Int), s3 = .int .i64 z ∧ s5 = .int .i64 (k : Int) ∧ k ≤ m ∧ Hid (Ext W1 wr)) (fun _ s5 _ => m - (intOf s5).toNat)
    case atStart => exact ⟨0, _, rfl, rfl, Nat.zero_le _, HE⟩
    case round =>
     obtain ⟨k, z, rfl, rfl, hk, HE⟩ := hrel
     have y1 := (HE.out.cells.1 _ _ hB).trans AB.out
     have hBl : B0 < wr.heap.size := Nat.lt_of_lt_of_le hB HE.out.le
     have y2 := (HE.out.cells.1 _ _ hb).trans HCE.out
     have hbl : b < wr.heap.size := Nat.lt_of_lt_of_le hb HE.out.le
     have hk0 : (0 : Int) ≤ (k : Int) := by omega
     by_cases hltk : k < m
     ·have hdk : decide ((k : Int) < (m : Int)) = true := decide_eq_true (by omega)
      have hdk' : decide (k < m) = true := decide_eq_true hltk
      have hltkI : (k : Int) < (m : Int) := by omega
      by_cases hz : z ≤ 3000
      ·have t1 : decide (z ≤ 3000) = true := decide_eq_true hz
       obtain ⟨x, hx⟩ : ∃ x, T[k]? = some x := ⟨_, List.getElem?_eq_getElem (by have := HMM.out; omega)⟩
       obtain ⟨b2, o2, hq2, ak, av⟩ := HIT1.out k x hx
       subst hq2
       have hb2 : b2 < W1.heap.size := ak.lt
       have hb2l : b2 < wr.heap.size := Nat.lt_of_lt_of_le hb2 HE.out.le
       obtain ⟨⟨xk, xn, xs⟩, ⟨vk, vn, vs⟩⟩ := x
       have z0 := (HE.out.cells.1 _ _ hb2).trans ak.k
       have z1 := (HE.out.cells.1 _ _ hb2).trans ak.n
       have z2 := (HE.out.cells.1 _ _ hb2).trans ak.s
       have v0 := (HE.out.cells.1 _ _ hb2).trans av.k
       have v1 := (HE.out.cells.1 _ _ hb2).trans av.n
       have v2 := (HE.out.cells.1 _ _ hb2).trans av.s
       simp only at z0 z1 z2 v0 v1 v2
       clear hx ak av hz
       go_wp2_with fail
       go_region_held3 (fun w' => w'.cell? ⟨B0, 1, none⟩ = some (.slice (some ⟨b, o, none⟩) n cap) ∧ w'.cell? ⟨b, o + i, none⟩ = some (.slice (some ⟨b2, o2, none⟩) m ci) ∧ w'.cell? ⟨b2, o2 + k * 6, none⟩ = some (.int .i64 xk) ∧ w'.cell? ⟨b2, o2 + k * 6 + 1, none⟩ = some (.int .i64 xn) ∧ w'.cell? ⟨b2, o2 + k * 6 + 2, none⟩ = some (.string xs) ∧ w'.cell? ⟨b2, o2 + k * 6 + 3, none⟩ = some (.int .i64 vk) ∧ w'.cell? ⟨b2, o2 + k * 6 + 3 + 1, none⟩ = some (.int .i64 vn) ∧ w'.cell? ⟨b2, o2 + k * 6 + 3 + 2, none⟩ = some (.string vs)) (go_keep)
        (first | (go_at_call 21; (with_reducible refine Calls.mono (size_some (some ⟨wr.heap.size, 0, none⟩) [⟨xk, xn, xs⟩, ⟨vk, vn, vs⟩] 2 z _ (blk_vals (cs := #[.int .i64 xk, .int .i64 xn, .string xs, .int .i64 vk, .int .i64 vn, .string vs]) (Blk.new _ _ _).drew rfl) two_few) ?_); rintro e w6 ⟨⟨z6, rfl⟩, rfl⟩))
       all_goals go_wp2_with fail
       all_goals (
        go_roundw
        case rel => exact ⟨k + 1, _, rfl, by go_num, by omega, Lib.hid ((HE.out.alloc _).drew)⟩
        case measure => simp [intOf]; omega)
      ·have t1 : decide (z ≤ 3000) = false := decide_eq_false hz
       go_wp2_with fail
       go_roundw
       case rel => exact ⟨i + 1, _, rfl, by go_num, by omega, HE⟩
       case measure => simp [intOf]; omega
     ·obtain rfl : k = m := by omega
      have hdk : decide ((k : Int) < (k : Int)) = false := decide_eq_false (by omega)
      have hdk' : decide (k < k) = false := decide_eq_false (by omega)
      go_wp2_with fail
      go_roundw
      case rel => exact ⟨i + 1, _, rfl, by go_num, by omega, HE⟩
      case measure => simp [intOf]; omega
   ·have t1 : decide (z ≤ 3000) = false := decide_eq_false hz
    go_wp2_with fail
    go_ret
    exact ⟨⟨_, rfl⟩, HE0.out.trans HE.out⟩
  ·obtain rfl : i = n := by omega
   have hd : decide ((i : Int) < (i : Int)) = false := decide_eq_false (by omega)
   have hd' : decide (i < i) = false := decide_eq_false (by omega)
   go_wp2_with fail
   go_ret
   exact ⟨⟨_, rfl⟩, HE0.out.trans HE.out⟩
end Go.Proofs.YtfagldjhibdfhaaGreatDoor
