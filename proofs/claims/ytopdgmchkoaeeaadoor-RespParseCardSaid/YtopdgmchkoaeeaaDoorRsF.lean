/- What is deferred at a face: caught; the answers struck. -/
import Derived.Test.YtopdgmchkoaeeaaDoorRsE
namespace Go.Proofs.YtopdgmchkoaeeaaDoor
open Go.RowKit
set_option linter.unusedVariables false
set_option linter.unusedSimpArgs false

def failV (c : Int) : Value := .iface 107 (.agg #[.int .i64 c])
theorem assert_fail (c : Int) (w : World) : (Instr.typeAssert (.iface 107 (.agg #[.int .i64 c])) 20 107 true).run Tryd.prog w = .ok (.tuple #[.agg #[.int .i64 c], .bool true]) w := by kernel_rfl
set_option maxRecDepth 100000 in
set_option maxHeartbeats 1000000 in
theorem caught_panic (c x : Int) (b : Nat) (older : List PanicEntry) (w : World) (hc : w.cell? ⟨b, 0, none⟩ = some (.int .i64 x)) (hz : w.frozen? ⟨b, 0, none⟩ = false) :
    CallsD Tryd.prog 42 #[.pointer (some ⟨b, 0, none⟩)] (.panicking ({ v := failV c, recovered := false } :: older)) w fun e u' w' =>
      e = .returned (.tuple #[]) ∧ u' = .panicking ({ v := failV c, recovered := true } :: older) ∧ w' = (w.setCell ⟨b, 0, none⟩ (.int .i64 c)).alloc (.cells #[.int .i64 c] 107) := by
  have hb := cell_lt hc
  have hne : ¬ b = w.heap.size := by simp only at hb; omega
  have ha := assert_fail c
  refine callsD_of_wpS Tryd.func42 rfl fun c₀ cs hu => ?_
  unfold failV at hu
  apply wpS_seq
  apply wpS_region
  simp [wpOpsS, go_sem, recoverD, hu, Tryd.ntmps42, Exit.thenS]
  refine wpS_of_wp ?_
  change Code.wp _ _ _ { tmps := #[.pointer (some ⟨b, 0, none⟩), undef, undef, undef, undef, .iface 107 (.agg #[.int .i64 c]), undef, undef, undef, undef, undef, undef, undef, undef, undef], defers := [] } w
  generalize hcs : ({ c₀ with mode := FrameMode.panicking ({ v := .iface 107 (.agg #[.int .i64 c]), recovered := true } :: older) } :: cs : List Frame) = cs'
  go_wp2_with fail
  subst hcs
  simp [bodyPostS, results, Tryd.results42, failV]
theorem caught_idle (b : Nat) (w : World) :
    CallsD Tryd.prog 42 #[.pointer (some ⟨b, 0, none⟩)] .returning w fun e u' w' => e = .returned (.tuple #[]) ∧ u' = .returning ∧ w' = w := by
  refine callsD_of_wpS Tryd.func42 rfl fun c₀ cs hu => ?_
  apply wpS_seq
  apply wpS_region
  simp [wpOpsS, go_sem, recoverD, hu, Tryd.ntmps42, Exit.thenS]
  refine wpS_of_wp ?_
  go_wp2_with fail
  cases c₀
  simp_all [bodyPostS, results, Tryd.results42]

set_option maxRecDepth 100000 in
theorem strike_err (be bl bn : Nat) (c : Int) (vl : Value) (n : Int) (u : FrameMode) (w : World) (hc : ¬ c = 0) (h1 : w.cell? ⟨be, 0, none⟩ = some (.int .i64 c)) (h2 : w.cell? ⟨bl, 0, none⟩ = some (.slice none 0 0) ∨ ∃ q k m, w.cell? ⟨bl, 0, none⟩ = some (.slice q k m)) (h3 : w.cell? ⟨bn, 0, none⟩ = some (.int .i64 n))
    (z2 : w.frozen? ⟨bl, 0, none⟩ = false) (z3 : w.frozen? ⟨bn, 0, none⟩ = false) (hne : ¬ bn = bl) :
    CallsD Tryd.prog 41 #[.pointer (some ⟨be, 0, none⟩), .pointer (some ⟨bl, 0, none⟩), .pointer (some ⟨bn, 0, none⟩)] u w fun e u' w' => u' = u ∧ e = .returned (.tuple #[]) ∧ w' = (w.setCell ⟨bl, 0, none⟩ (.slice none 0 0)).setCell ⟨bn, 0, none⟩ (.int .i64 0) := by
  have hz : (c == 0) = false := by simpa using hc
  have hz' : (c != 0) = true := by simpa using hc
  obtain ⟨q, k, m, h2⟩ : ∃ q k m, w.cell? ⟨bl, 0, none⟩ = some (.slice q k m) := by
    rcases h2 with h2 | h2
    · exact ⟨_, _, _, h2⟩
    · exact h2
  have hne' : ¬ bl = bn := fun h => hne h.symm
  go_enter_d Tryd.func41, Tryd.ntmps41
  go_wp2_with fail
  go_end0
  exact ⟨rfl, rfl⟩
theorem strike_ok (be bl bn : Nat) (u : FrameMode) (w : World) (h1 : w.cell? ⟨be, 0, none⟩ = some (.int .i64 0)) :
    CallsD Tryd.prog 41 #[.pointer (some ⟨be, 0, none⟩), .pointer (some ⟨bl, 0, none⟩), .pointer (some ⟨bn, 0, none⟩)] u w fun e u' w' => u' = u ∧ e = .returned (.tuple #[]) ∧ w' = w := by
  go_enter_d Tryd.func41, Tryd.ntmps41
  go_wp2_with fail
  go_end0
  exact ⟨rfl, rfl⟩
end Go.Proofs.YtopdgmchkoaeeaaDoor
