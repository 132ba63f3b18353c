/- The document's Names, Has, kinds. -/
import Derived.Test.YtfagldjhibdfhaaGreatDoorYA5
import Derived.Test.YtfagldjhibdfhaaGreatDoorYA3
namespace Go.Proofs.YtfagldjhibdfhaaGreatDoor
open Go.RowKit
set_option linter.unusedVariables false
set_option linter.unusedSimpArgs false

def namesO : Obj := .cells (libNames.map Value.string).toArray 9
theorem rnames_any (w : World) : Calls Tryz.prog 32 #[] w fun e w' => e = .returned (.slice (some ⟨w.heap.size, 0, none⟩) 13 13) ∧ w' = w.alloc namesO := by
  go_enter Tryz.func32, Tryz.ntmps32
  go_wp2
  go_ret
  exact ⟨rfl, rfl⟩
theorem names_cell (w : World) (j : Nat) (hj : j < 13) : (w.alloc namesO).cell? ⟨w.heap.size, j, none⟩ = some (.string (libNames.getD j sNone)) := by
  have hb : Blk (w.alloc namesO) w.heap.size 9 (libNames.map Value.string).toArray := Blk.new w _ _
  rw [hb.cell j]
  have h9 : j < libNames.length := hj
  simp only [List.getElem?_toArray, List.getElem?_map, List.getElem?_eq_getElem h9, Option.map_some, List.getD_eq_getElem?_getD, Option.getD_some]
/-- Is a name among those from a place on? -/
def hasFrom (s : ByteArray) (j : Nat) : Bool := (libNames.drop j).any fun x => decide (x = s)
theorem has_from (s : ByteArray) : callB s = hasFrom s 0 := by
  unfold callB libIdx hasFrom
  rw [List.drop_zero, List.findIdx?_isSome]
theorem hasFrom_step (s : ByteArray) (j : Nat) (hj : j < 13) : hasFrom s j = (decide (libNames.getD j sNone = s) || hasFrom s (j + 1)) := by
  have h9 : j < libNames.length := hj
  unfold hasFrom
  rw [List.drop_eq_getElem_cons h9, List.any_cons, List.getD_eq_getElem?_getD, List.getElem?_eq_getElem h9]
  rfl
theorem str_eq (a b : ByteArray) : (a.toList == b.toList) = decide (a = b) := by
  rw [Bool.eq_iff_iff, beq_iff_eq, decide_eq_true_iff, Lib.toList_data, Lib.toList_data]
  exact ⟨fun h => by cases a; cases b; simp only [Array.toList_inj] at h; rw [h], fun h => by rw [h]⟩
set_option maxRecDepth 100000 in
theorem rhas_any (s : ByteArray) (w : World) : Calls Tryz.prog 23 #[.string s] w fun e w' => e = .returned (.bool (callB s)) ∧ Ext w w' := by
  have HC := Lib.hid (names_cell w)
  have HE := Lib.hid ((Ext.refl w).alloc namesO)
  have HS := Lib.hid (has_from s)
  obtain ⟨cb, hcb⟩ : ∃ cb, callB s = cb := ⟨_, rfl⟩
  rw [hcb] at HS ⊢
  have hz : (w.alloc namesO).heap.size = w.heap.size + 1 := size_alloc _ _
  go_enter Tryz.func23, Tryz.ntmps23
  go_wp2_with fail
  refine (rnames_any _).mono ?_
  rintro e w1 ⟨rfl, rfl⟩
  go_wp2_with fail
  generalize w.alloc namesO = w1 at HC HE hz ⊢
  go_loopw [4] (fun jv wr => ∃ j : Nat, jv = .int .i64 j ∧ j ≤ 13 ∧ wr = w1 ∧ Hid (cb = hasFrom s j)) (fun jv _ => 13 - (intOf jv).toNat)
  case atStart => exact ⟨0, rfl, Nat.zero_le _, rfl, HS⟩
  case round =>
    obtain ⟨j, rfl, hj, rfl, HJ⟩ := hrel
    by_cases hlt : j < 13
    · have c1 := HC.out j hlt
      have HD := Lib.hid (hasFrom_step s j hlt)
      obtain ⟨y, hy⟩ : ∃ y, libNames.getD j sNone = y := ⟨_, rfl⟩
      rw [hy] at c1 HD
      have hlt' : (j : Int) < 13 := by omega
      have hb : w.heap.size < wr.heap.size := by omega
      clear hy
      cases hd : decide (y = s)
      · have h1 : (y.toList == s.toList) = false := by rw [str_eq]; exact hd
        have HZ : Hid (cb = hasFrom s (j + 1)) := Lib.hid (by rw [HJ.out, HD.out, hd, Bool.false_or])
        clear hd
        go_wp2_with fail
        go_roundw
        case rel => exact ⟨j + 1, by go_num, hlt, trivial, HZ⟩
        case measure => simp [intOf]; omega
      · have h1 : (y.toList == s.toList) = true := by rw [str_eq]; exact hd
        have HZ : Hid (cb = true) := Lib.hid (by rw [HJ.out, HD.out, hd, Bool.true_or])
        clear hd
        go_wp2_with fail
        go_ret
        exact ⟨by rw [HZ.out]; rfl, HE.out⟩
    · obtain rfl : j = 13 := by omega
      have HZ : Hid (cb = false) := Lib.hid (by rw [HJ.out]; rfl)
      go_wp2_with fail
      go_ret
      exact ⟨by rw [HZ.out]; rfl, HE.out⟩
/-- What the document asks of a function's arguments, as a text. -/
def kindsB (f m : Nat) : ByteArray := ⟨(kindsP f m).toArray⟩
set_option maxRecDepth 100000 in
set_option maxHeartbeats 1000000 in
theorem rkinds_char (m : Nat) (hm : m ≤ 1048576) (w : World) : Calls Tryz.prog 86 #[.string ⟨#[99, 104, 97, 114]⟩, .int .i64 m] w fun e w' => e = .returned (.string (kindsB 1 m)) ∧ w = w' := by
  have hk : kindsB 1 m = ⟨(List.replicate m 110).toArray⟩ := rfl
  rw [hk]
  clear hk
  go_enter Tryz.func86, Tryz.ntmps86
  go_wp2_with fail
  go_loopw [5, 6] (fun sv jv wr => ∃ j : Nat, sv = .string ⟨(List.replicate j 110).toArray⟩ ∧ jv = .int .i64 j ∧ j ≤ m ∧ wr = w) (fun _ jv _ => m - (intOf jv).toNat)
  case atStart => exact ⟨0, rfl, rfl, Nat.zero_le _, rfl⟩
  case round =>
    obtain ⟨j, rfl, rfl, hj, rfl⟩ := hrel
    by_cases hlt : j < m
    · have hd : decide ((j : Int) < (m : Int)) = true := decide_eq_true (by omega)
      go_wp2_with fail
      go_roundw
      case rel => exact ⟨j + 1, by rw [List.replicate_succ']; apply congrArg; simp [ByteArray.ext_iff]; rw [← List.push_toArray, List.toArray_replicate], by go_num, hlt, trivial⟩
      case measure => simp [intOf]; omega
    · obtain rfl : j = m := by omega
      go_wp2_with fail
      go_ret
      exact ⟨rfl, rfl⟩
set_option maxRecDepth 100000 in
set_option maxHeartbeats 4000000 in
theorem rkinds_any (f m : Nat) (hf : f < 13) (hm : m ≤ 1048576) (w : World) : Calls Tryz.prog 86 #[.string (libNames.getD f sNone), .int .i64 m] w fun e w' => e = .returned (.string (kindsB f m)) ∧ w = w' := by
  have hc : f = 0 ∨ f = 1 ∨ f = 2 ∨ f = 3 ∨ f = 4 ∨ f = 5 ∨ f = 6 ∨ f = 7 ∨ f = 8 ∨ f = 9 ∨ f = 10 ∨ f = 11 ∨ f = 12 := by omega
  rcases hc with rfl | rfl | rfl | rfl | rfl | rfl | rfl | rfl | rfl | rfl | rfl | rfl | rfl
  case inr.inl => exact rkinds_char m hm w
  case inr.inr.inr.inr.inl =>
    simp only [libNames, List.getD_cons_zero, List.getD_cons_succ]
    by_cases h2 : m = 2
    · subst h2
      go_enter Tryz.func86, Tryz.ntmps86
      go_wp2
      go_ret
      exact ⟨rfl, rfl⟩
    · have hd : ((m : Int) == 2) = false := by rw [beq_eq_false_iff_ne]; omega
      have hk : kindsB 4 m = ⟨#[98, 110, 118]⟩ := by unfold kindsB kindsP; simp only [if_neg h2]
      rw [hk]
      go_enter Tryz.func86, Tryz.ntmps86
      go_wp2
      go_ret
      exact ⟨rfl, rfl⟩
  case inr.inr.inr.inr.inr.inr.inr.inl =>
    simp only [libNames, List.getD_cons_zero, List.getD_cons_succ]
    by_cases h2 : m = 1
    · subst h2
      go_enter Tryz.func86, Tryz.ntmps86
      go_wp2
      go_ret
      exact ⟨rfl, rfl⟩
    · have hd : ((m : Int) == 1) = false := by rw [beq_eq_false_iff_ne]; omega
      have hk : kindsB 7 m = ⟨#[98, 110]⟩ := by unfold kindsB kindsP; simp only [if_neg h2]
      rw [hk]
      go_enter Tryz.func86, Tryz.ntmps86
      go_wp2
      go_ret
      exact ⟨rfl, rfl⟩
  case inr.inr.inr.inr.inr.inr.inr.inr.inr.inl =>
    simp only [libNames, List.getD_cons_zero, List.getD_cons_succ]
    by_cases h2 : m = 2
    · subst h2
      go_enter Tryz.func86, Tryz.ntmps86
      go_wp2
      go_ret
      exact ⟨rfl, rfl⟩
    · have hd : ((m : Int) == 2) = false := by rw [beq_eq_false_iff_ne]; omega
      have hk : kindsB 9 m = ⟨#[116, 110, 110]⟩ := by unfold kindsB kindsP; simp only [if_neg h2]
      rw [hk]
      go_enter Tryz.func86, Tryz.ntmps86
      go_wp2
      go_ret
      exact ⟨rfl, rfl⟩
  all_goals
    simp only [libNames, List.getD_cons_zero, List.getD_cons_succ]
    go_enter Tryz.func86, Tryz.ntmps86
    go_wp2
    go_ret
    exact ⟨rfl, rfl⟩
end Go.Proofs.YtfagldjhibdfhaaGreatDoor
