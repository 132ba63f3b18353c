/- heavy, size: they tell something. -/
import Derived.Test.YtfagldjhibdfhaaGreatDoorYLwP
import Derived.BigQuiet
import Derived.Test.YtfagldjhibdfhaaGreatDoorYB5
namespace Go.Proofs.YtfagldjhibdfhaaGreatDoor
open Go.RowKit
set_option linter.unusedVariables false
set_option linter.unusedSimpArgs false

def HvE (w : World) (e : Ending) (w' : World) : Prop := (∃ b, e = .returned (.bool b)) ∧ Ext w w'
set_option maxRecDepth 100000 in
set_option maxHeartbeats 4000000 in
theorem heavy_other (name : ByteArray) (q : Option Addr) (m c : Nat) (w : World) (h : (name.toList == [114, 101, 112]) = false) : Calls Tryz.prog 22 #[.string name, .slice q m c] w (HvE w) := by
  go_enter Tryz.func22, Tryz.ntmps22
  go_wp2_with fail
  refine wp_region_ext (by kernel_rfl) (by kernel_rfl) ?_
  repeat (
    first
      | go_big_quiet_skip
      | (go_big_quiet_want
         go_big_quiet_op
         first
           | go_big_quiet_on
           | (apply Exists.intro
              refine ⟨fun wq hq => ?_, ?_⟩
              focus (
                go_simp
                exact rfl)
              go_big_quiet_on)))
  refine wpQuiet_nil ?_
  intro we hwe
  go_wp2_with fail
  go_ret
  exact ⟨⟨_, rfl⟩, hwe⟩
set_option maxRecDepth 100000 in
set_option maxHeartbeats 4000000 in
theorem heavy_len (q : Option Addr) (m c : Nat) (w : World) (h : ¬ m = 2) : Calls Tryz.prog 22 #[.string ⟨#[114, 101, 112]⟩, .slice q m c] w (HvE w) := by
  have t1 : ((m : Int) == 2) = false := by rw [beq_eq_false_iff_ne]; omega
  have t2 : (m == 2) = false := by rw [beq_eq_false_iff_ne]; omega
  clear h
  go_enter Tryz.func22, Tryz.ntmps22
  go_wp2_with fail
  refine wp_region_ext (by kernel_rfl) (by kernel_rfl) ?_
  repeat (
    first
      | go_big_quiet_skip
      | (go_big_quiet_want
         go_big_quiet_op
         first
           | go_big_quiet_on
           | (apply Exists.intro
              refine ⟨fun wq hq => ?_, ?_⟩
              focus (
                go_simp
                exact rfl)
              go_big_quiet_on)))
  refine wpQuiet_nil ?_
  intro we hwe
  go_wp2_with fail
  go_ret
  exact ⟨⟨_, rfl⟩, hwe⟩
set_option maxRecDepth 100000 in
set_option maxHeartbeats 4000000 in
theorem heavy_two (b o c : Nat) (s : ByteArray) (n : Int) (w : World) (hs : s.size ≤ 9223372036854775807) (h1 : w.cell? ⟨b, o + 2, none⟩ = some (.string s)) (h2 : w.cell? ⟨b, o + 3 + 1, none⟩ = some (.int .i64 n)) (hb : b < w.heap.size) :
    Calls Tryz.prog 22 #[.string ⟨#[114, 101, 112]⟩, .slice (some ⟨b, o, none⟩) 2 c] w (HvE w) := by
  obtain ⟨m, hm⟩ : ∃ m, s.size = m := ⟨_, rfl⟩
  rw [hm] at hs
  have hmI : (m : Int) ≤ 9223372036854775807 := by omega
  have hm0 : (0 : Int) ≤ (m : Int) := by omega
  go_enter Tryz.func22, Tryz.ntmps22
  rcases Nat.eq_zero_or_pos m with h0 | h0
  · have t1 : decide ((0 : Int) < (m : Int)) = false := decide_eq_false (by omega)
    have t2 : decide (0 < m) = false := decide_eq_false (by omega)
    clear h0
    go_wp2_with fail
    refine wp_region_ext (by kernel_rfl) (by kernel_rfl) ?_
    repeat (
      first
        | go_big_quiet_skip
        | (go_big_quiet_want
           go_big_quiet_op
           first
             | go_big_quiet_on
             | (apply Exists.intro
                refine ⟨fun wq hq => ?_, ?_⟩
                focus (
                  have h1 := cell_of_ext h1 hq
                  have h2 := cell_of_ext h2 hq
                  have hb := Nat.lt_of_lt_of_le hb hq.le
                  go_simp
                  exact rfl)
                go_big_quiet_on)))
    refine wpQuiet_nil ?_
    intro we hwe
    clear h1 h2
    go_wp2_with fail
    go_ret
    exact ⟨⟨_, rfl⟩, hwe⟩
  · have t1 : decide ((0 : Int) < (m : Int)) = true := decide_eq_true (by omega)
    have t2 : decide (0 < m) = true := decide_eq_true h0
    have hz : ¬ (m : Int) = 0 := by omega
    have hz2 : ¬ m = 0 := by omega
    by_cases h3 : (3000 : Int) / (m : Int) < n
    · have t3 : decide ((3000 : Int) / (m : Int) < n) = true := decide_eq_true h3
      by_cases h4 : n ≤ (1048576 : Int) / (m : Int)
      · have t4 : decide (n ≤ (1048576 : Int) / (m : Int)) = true := decide_eq_true h4
        clear h0 h3 h4
        go_wp2_with fail
        refine wp_region_ext (by kernel_rfl) (by kernel_rfl) ?_
        repeat (
          first
            | go_big_quiet_skip
            | (go_big_quiet_want
               go_big_quiet_op
               first
                 | go_big_quiet_on
                 | (apply Exists.intro
                    refine ⟨fun wq hq => ?_, ?_⟩
                    focus (
                      have h1 := cell_of_ext h1 hq
                      have h2 := cell_of_ext h2 hq
                      have hb := Nat.lt_of_lt_of_le hb hq.le
                      go_simp
                      exact rfl)
                    go_big_quiet_on)))
        refine wpQuiet_nil ?_
        intro we hwe
        clear h1 h2
        go_wp2_with fail
        go_ret
        exact ⟨⟨_, rfl⟩, hwe⟩
      · have t4 : decide (n ≤ (1048576 : Int) / (m : Int)) = false := decide_eq_false h4
        clear h0 h3 h4
        go_wp2_with fail
        refine wp_region_ext (by kernel_rfl) (by kernel_rfl) ?_
        repeat (
          first
            | go_big_quiet_skip
            | (go_big_quiet_want
               go_big_quiet_op
               first
                 | go_big_quiet_on
                 | (apply Exists.intro
                    refine ⟨fun wq hq => ?_, ?_⟩
                    focus (
                      have h1 := cell_of_ext h1 hq
                      have h2 := cell_of_ext h2 hq
                      have hb := Nat.lt_of_lt_of_le hb hq.le
                      go_simp
                      exact rfl)
                    go_big_quiet_on)))
        refine wpQuiet_nil ?_
        intro we hwe
        clear h1 h2
        go_wp2_with fail
        go_ret
        exact ⟨⟨_, rfl⟩, hwe⟩
    · have t3 : decide ((3000 : Int) / (m : Int) < n) = false := decide_eq_false h3
      clear h0 h3
      go_wp2_with fail
      refine wp_region_ext (by kernel_rfl) (by kernel_rfl) ?_
      repeat (
        first
          | go_big_quiet_skip
          | (go_big_quiet_want
             go_big_quiet_op
             first
               | go_big_quiet_on
               | (apply Exists.intro
                  refine ⟨fun wq hq => ?_, ?_⟩
                  focus (
                    have h1 := cell_of_ext h1 hq
                    have h2 := cell_of_ext h2 hq
                    have hb := Nat.lt_of_lt_of_le hb hq.le
                    go_simp
                    exact rfl)
                  go_big_quiet_on)))
      refine wpQuiet_nil ?_
      intro we hwe
      clear h1 h2
      go_wp2_with fail
      go_ret
      exact ⟨⟨_, rfl⟩, hwe⟩
theorem heavy_some (name : ByteArray) (q : Option Addr) (l : List Vl) (c : Nat) (w : World) (hl : ValsAt w q l) (hs : ∀ x ∈ l, x.s.size ≤ 9223372036854775807) : Calls Tryz.prog 22 #[.string name, .slice q l.length c] w (HvE w) := by
 by_cases hn : name = ⟨#[114, 101, 112]⟩
 ·subst hn
  by_cases h2 : l.length = 2
  ·obtain ⟨x0, x1, rfl⟩ := two_of h2
   obtain ⟨b, o, rfl, a0⟩ := hl 0 x0 rfl
   obtain ⟨b', o', hb', a1⟩ := hl 1 x1 rfl
   cases hb'
   exact heavy_two b o c x0.s x1.n w (hs x0 (by simp)) (by simpa using a0.s) (by simpa using a1.n) a0.lt
  ·exact heavy_len q _ c w h2
 ·refine heavy_other name q _ c w ?_
  rw [beq_eq_false_iff_ne, Lib.toList_data]
  exact fun e => hn (by apply ByteArray.ext; exact Array.toList_inj.1 (e.trans rfl))
end Go.Proofs.YtfagldjhibdfhaaGreatDoor
