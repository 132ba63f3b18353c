/- Cells are taken from a heap, and told. -/
import Derived.Test.YtidjibghicejaaaDoorValE
namespace Go.Proofs.YtidjibghicejaaaDoor
open Go.RowKit
set_option linter.unusedVariables false

/-- Are there so many cells; how many are taken then. -/
def tkB (c s n : Int) : Bool := decide (n ≤ c - s)
def tk (c s n : Int) : Int := if n ≤ c - s then s + n else s
theorem tkB_yes {c s n : Int} (h : n ≤ c - s) : true = tkB c s n := by simp [tkB, h]
theorem tkB_no {c s n : Int} (h : ¬ n ≤ c - s) : false = tkB c s n := by simp [tkB, h]
theorem tk_yes {c s n : Int} (h : n ≤ c - s) : tk c s n = s + n := if_pos h
theorem tk_no {c s n : Int} (h : ¬ n ≤ c - s) : tk c s n = s := if_neg h

theorem take_any (g : Nat) (tv : Value) (c s n : Int) (w : World) (h : Blk w g 61 #[tv, .int .i64 c, .int .i64 s]) (hs : 0 ≤ s) (hc : s ≤ c) (hc' : c ≤ 4611686018427387903) (hn : 0 ≤ n) (hn' : n ≤ 4611686018427387903) :
    Calls Tryd.prog 33 #[.pointer (some ⟨g, 0, none⟩), .int .i64 n] w fun e w' =>
      e = .returned (.bool (tkB c s n)) ∧ Only g w w' ∧ Blk w' g 61 #[tv, .int .i64 c, .int .i64 (tk c s n)] := by
  have c1 : w.cell? ⟨g, 1, none⟩ = some (.int .i64 c) := h.cell 1
  have c2 : w.cell? ⟨g, 2, none⟩ = some (.int .i64 s) := h.cell 2
  have f2 : w.frozen? ⟨g, 2, none⟩ = false := h.frozen 2
  have e1 : IntKind.i64.wrap (c - s) = c - s := IntWalk.i64_in _ (by omega)
  by_cases hq : n ≤ c - s
  · have hd : decide (c - s < n) = false := by simp; omega
    go_enter Tryd.func33, Tryd.ntmps33
    go_wp2
    go_quiet (fail)
    clear hd e1
    go_wp2
    go_ret
    refine ⟨ret_of (bool_eq (tkB_yes hq)), ((Only.refl g w).ext ((Ext.refl w).drewN _)).setCell (.inl rfl) _, ?_⟩
    rw [tk_yes hq]
    exact (h.drewN _).set_ 2 _
  · have hd : decide (c - s < n) = true := by simp; omega
    go_enter Tryd.func33, Tryd.ntmps33
    go_wp2
    go_quiet (fail)
    clear hd e1
    go_wp2
    go_ret
    refine ⟨ret_of (bool_eq (tkB_no (by omega))), (Only.refl g w).ext ((Ext.refl w).drewN _), ?_⟩
    rw [tk_no (by omega)]
    exact h.drewN _

theorem rtake_any (g : Nat) (tv : Value) (c s n : Int) (w : World) (h : Blk w g 38 #[tv, .int .i64 c, .int .i64 s]) (hs : 0 ≤ s) (hc : s ≤ c) (hc' : c ≤ 4611686018427387903) (hn : 0 ≤ n) (hn' : n ≤ 4611686018427387903) :
    Calls Tryd.prog 52 #[.pointer (some ⟨g, 0, none⟩), .int .i64 n] w fun e w' =>
      e = .returned (.bool (tkB c s n)) ∧ Only g w w' ∧ Blk w' g 38 #[tv, .int .i64 c, .int .i64 (tk c s n)] := by
  have c1 : w.cell? ⟨g, 1, none⟩ = some (.int .i64 c) := h.cell 1
  have c2 : w.cell? ⟨g, 2, none⟩ = some (.int .i64 s) := h.cell 2
  have f2 : w.frozen? ⟨g, 2, none⟩ = false := h.frozen 2
  have e1 : IntKind.i64.wrap (c - s) = c - s := IntWalk.i64_in _ (by omega)
  by_cases hq : n ≤ c - s
  · have hd : decide (c - s < n) = false := by simp; omega
    go_enter Tryd.func52, Tryd.ntmps52
    go_wp2
    go_quiet (fail)
    clear hd e1
    go_wp2
    go_ret
    refine ⟨ret_of (bool_eq (tkB_yes hq)), ((Only.refl g w).ext ((Ext.refl w).drewN _)).setCell (.inl rfl) _, ?_⟩
    rw [tk_yes hq]
    exact (h.drewN _).set_ 2 _
  · have hd : decide (c - s < n) = true := by simp; omega
    go_enter Tryd.func52, Tryd.ntmps52
    go_wp2
    go_quiet (fail)
    clear hd e1
    go_wp2
    go_ret
    refine ⟨ret_of (bool_eq (tkB_no (by omega))), (Only.refl g w).ext ((Ext.refl w).drewN _), ?_⟩
    rw [tk_no (by omega)]
    exact h.drewN _

theorem spent_any (g : Nat) (tv : Value) (c s : Int) (w : World) (h : Blk w g 61 #[tv, .int .i64 c, .int .i64 s]) :
    Calls Tryd.prog 13 #[.pointer (some ⟨g, 0, none⟩)] w fun e w' => e = .returned (.int .i64 s) ∧ Ext w w' := by
  have c2 : w.cell? ⟨g, 2, none⟩ = some (.int .i64 s) := h.cell 2
  go_enter Tryd.func13, Tryd.ntmps13
  go_wp2
  go_ret
  exact ⟨rfl, Ext.refl w⟩
end Go.Proofs.YtidjibghicejaaaDoor
