/- Orders of numbers and of texts, by their operators. -/
import Derived.Test.YtidjibghicejaaaDoorValG
import Derived.Test.YtidjibghicejaaaDoorMap
namespace Go.Proofs.YtidjibghicejaaaDoor
open Go.RowKit
set_option linter.unusedVariables false

def cmpI (a b : Int) : Int := if a < b then -1 else if b < a then 1 else 0
def lessS (s t : ByteArray) : Bool := Op.bytesLess s.toList t.toList
def cmpS (s t : ByteArray) : Int := if lessS s t then -1 else if !lessS s t && !(s.toList == t.toList) then 1 else 0

theorem nanI_any (a : Int) (w : World) : Calls Tryd.prog 103 #[.int .i64 a] w fun e w' => e = .returned (.bool false) ∧ w = w' := by
  go_enter Tryd.func103, Tryd.ntmps103
  go_wp2
  go_ret
  exact ⟨ret_of (bool_eq (by simp)), rfl⟩
theorem nanS_any (a : ByteArray) (w : World) : Calls Tryd.prog 104 #[.string a] w fun e w' => e = .returned (.bool false) ∧ w = w' := by
  go_enter Tryd.func104, Tryd.ntmps104
  go_wp2
  go_ret
  exact ⟨ret_of (bool_eq (by simp)), rfl⟩
theorem cmpI_any (a b : Int) (w : World) : Calls Tryd.prog 75 #[.int .i64 a, .int .i64 b] w fun e w' => e = .returned (.int .i64 (cmpI a b)) ∧ w = w' := by
  go_enter Tryd.func75, Tryd.ntmps75
  go_wp2_with (go_at_call 103; refine (nanI_any _ _).mono ?_; rintro e w' ⟨rfl, rfl⟩)
  all_goals (go_ret; go_tidy; exact ⟨ret_of (int_eq (by unfold cmpI; (repeat' split) <;> omega)), rfl⟩)
theorem cmpS_any (a b : ByteArray) (w : World) : Calls Tryd.prog 76 #[.string a, .string b] w fun e w' => e = .returned (.int .i64 (cmpS a b)) ∧ w = w' := by
  go_enter Tryd.func76, Tryd.ntmps76
  go_wp2_with (go_at_call 104; refine (nanS_any _ _).mono ?_; rintro e w' ⟨rfl, rfl⟩)
  all_goals (go_ret; go_tidy; refine ⟨ret_of (int_eq ?_), rfl⟩)
  all_goals (unfold cmpS lessS; simp [*])
def ordI (o : Nat) (a b : Int) : Bool := if o = 0 then decide (cmpI a b < 0) else if o = 1 then decide (cmpI a b ≤ 0) else if o = 2 then decide (0 < cmpI a b) else decide (0 ≤ cmpI a b)
def ordS (o : Nat) (a b : ByteArray) : Bool := if o = 0 then decide (cmpS a b < 0) else if o = 1 then decide (cmpS a b ≤ 0) else if o = 2 then decide (0 < cmpS a b) else decide (0 ≤ cmpS a b)

theorem holdsI_0 (a b : Int) (w : World) : Calls Tryd.prog 61 #[.string ⟨#[60]⟩, .int .i64 a, .int .i64 b] w fun e w' => e = .returned (.bool (ordI 0 a b)) ∧ Ext w w' := by
  have hmm := @run_makeMap Tryd.prog
  have i0 : ∀  v : Value, (Instr.mapUpdate 111 (.map (some w.heap.size)) (.string ⟨#[60]⟩) v).run Tryd.prog (w.alloc (.map #[] 0)) = .ok () (w.alloc (.map (ents [(.string ⟨#[60]⟩, v)] 0).toArray 1)) :=
    fun  v => run_insert_lit Tryd.underlying111 Tryd.underlying9 rfl [] 0 _ v rfl rfl w
  have i1 : ∀  v0 v : Value, (Instr.mapUpdate 111 (.map (some w.heap.size)) (.string ⟨#[60, 61]⟩) v).run Tryd.prog (w.alloc (.map (ents [(.string ⟨#[60]⟩, v0)] 0).toArray 1)) = .ok () (w.alloc (.map (ents [(.string ⟨#[60]⟩, v0), (.string ⟨#[60, 61]⟩, v)] 0).toArray 2)) :=
    fun  v0 v => run_insert_lit Tryd.underlying111 Tryd.underlying9 rfl [(.string ⟨#[60]⟩, v0)] 1 _ v rfl rfl w
  have i2 : ∀  v0 v1 v : Value, (Instr.mapUpdate 111 (.map (some w.heap.size)) (.string ⟨#[62]⟩) v).run Tryd.prog (w.alloc (.map (ents [(.string ⟨#[60]⟩, v0), (.string ⟨#[60, 61]⟩, v1)] 0).toArray 2)) = .ok () (w.alloc (.map (ents [(.string ⟨#[60]⟩, v0), (.string ⟨#[60, 61]⟩, v1), (.string ⟨#[62]⟩, v)] 0).toArray 3)) :=
    fun  v0 v1 v => run_insert_lit Tryd.underlying111 Tryd.underlying9 rfl [(.string ⟨#[60]⟩, v0), (.string ⟨#[60, 61]⟩, v1)] 2 _ v rfl rfl w
  have i3 : ∀  v0 v1 v2 v : Value, (Instr.mapUpdate 111 (.map (some w.heap.size)) (.string ⟨#[62, 61]⟩) v).run Tryd.prog (w.alloc (.map (ents [(.string ⟨#[60]⟩, v0), (.string ⟨#[60, 61]⟩, v1), (.string ⟨#[62]⟩, v2)] 0).toArray 3)) = .ok () (w.alloc (.map (ents [(.string ⟨#[60]⟩, v0), (.string ⟨#[60, 61]⟩, v1), (.string ⟨#[62]⟩, v2), (.string ⟨#[62, 61]⟩, v)] 0).toArray 4)) :=
    fun  v0 v1 v2 v => run_insert_lit Tryd.underlying111 Tryd.underlying9 rfl [(.string ⟨#[60]⟩, v0), (.string ⟨#[60, 61]⟩, v1), (.string ⟨#[62]⟩, v2)] 3 _ v rfl rfl w
  have l0 : ∀ v0 v1 v2 v3 : Value, (Instr.lookup 111 (.map (some w.heap.size)) (.string ⟨#[60]⟩) false).run Tryd.prog (w.alloc (.map (ents [(.string ⟨#[60]⟩, v0), (.string ⟨#[60, 61]⟩, v1), (.string ⟨#[62]⟩, v2), (.string ⟨#[62, 61]⟩, v3)] 0).toArray 4)) = .ok v0 (w.alloc (.map (ents [(.string ⟨#[60]⟩, v0), (.string ⟨#[60, 61]⟩, v1), (.string ⟨#[62]⟩, v2), (.string ⟨#[62, 61]⟩, v3)] 0).toArray 4)) :=
    fun v0 v1 v2 v3 => run_lookup_lit Tryd.underlying111 Tryd.underlying9 rfl [(.string ⟨#[60]⟩, v0), (.string ⟨#[60, 61]⟩, v1), (.string ⟨#[62]⟩, v2), (.string ⟨#[62, 61]⟩, v3)] 4 _ _ v0 (heap_alloc_new w _) rfl false
  go_enter Tryd.func61, Tryd.ntmps61
  go_wp2_with (go_at_call 75; refine (cmpI_any _ _ _).mono ?_; rintro e w' ⟨rfl, rfl⟩)
  go_ret
  exact ⟨rfl, (Ext.refl w).alloc _⟩

theorem holdsI_1 (a b : Int) (w : World) : Calls Tryd.prog 61 #[.string ⟨#[60, 61]⟩, .int .i64 a, .int .i64 b] w fun e w' => e = .returned (.bool (ordI 1 a b)) ∧ Ext w w' := by
  have hmm := @run_makeMap Tryd.prog
  have i0 : ∀  v : Value, (Instr.mapUpdate 111 (.map (some w.heap.size)) (.string ⟨#[60]⟩) v).run Tryd.prog (w.alloc (.map #[] 0)) = .ok () (w.alloc (.map (ents [(.string ⟨#[60]⟩, v)] 0).toArray 1)) :=
    fun  v => run_insert_lit Tryd.underlying111 Tryd.underlying9 rfl [] 0 _ v rfl rfl w
  have i1 : ∀  v0 v : Value, (Instr.mapUpdate 111 (.map (some w.heap.size)) (.string ⟨#[60, 61]⟩) v).run Tryd.prog (w.alloc (.map (ents [(.string ⟨#[60]⟩, v0)] 0).toArray 1)) = .ok () (w.alloc (.map (ents [(.string ⟨#[60]⟩, v0), (.string ⟨#[60, 61]⟩, v)] 0).toArray 2)) :=
    fun  v0 v => run_insert_lit Tryd.underlying111 Tryd.underlying9 rfl [(.string ⟨#[60]⟩, v0)] 1 _ v rfl rfl w
  have i2 : ∀  v0 v1 v : Value, (Instr.mapUpdate 111 (.map (some w.heap.size)) (.string ⟨#[62]⟩) v).run Tryd.prog (w.alloc (.map (ents [(.string ⟨#[60]⟩, v0), (.string ⟨#[60, 61]⟩, v1)] 0).toArray 2)) = .ok () (w.alloc (.map (ents [(.string ⟨#[60]⟩, v0), (.string ⟨#[60, 61]⟩, v1), (.string ⟨#[62]⟩, v)] 0).toArray 3)) :=
    fun  v0 v1 v => run_insert_lit Tryd.underlying111 Tryd.underlying9 rfl [(.string ⟨#[60]⟩, v0), (.string ⟨#[60, 61]⟩, v1)] 2 _ v rfl rfl w
  have i3 : ∀  v0 v1 v2 v : Value, (Instr.mapUpdate 111 (.map (some w.heap.size)) (.string ⟨#[62, 61]⟩) v).run Tryd.prog (w.alloc (.map (ents [(.string ⟨#[60]⟩, v0), (.string ⟨#[60, 61]⟩, v1), (.string ⟨#[62]⟩, v2)] 0).toArray 3)) = .ok () (w.alloc (.map (ents [(.string ⟨#[60]⟩, v0), (.string ⟨#[60, 61]⟩, v1), (.string ⟨#[62]⟩, v2), (.string ⟨#[62, 61]⟩, v)] 0).toArray 4)) :=
    fun  v0 v1 v2 v => run_insert_lit Tryd.underlying111 Tryd.underlying9 rfl [(.string ⟨#[60]⟩, v0), (.string ⟨#[60, 61]⟩, v1), (.string ⟨#[62]⟩, v2)] 3 _ v rfl rfl w
  have l0 : ∀ v0 v1 v2 v3 : Value, (Instr.lookup 111 (.map (some w.heap.size)) (.string ⟨#[60, 61]⟩) false).run Tryd.prog (w.alloc (.map (ents [(.string ⟨#[60]⟩, v0), (.string ⟨#[60, 61]⟩, v1), (.string ⟨#[62]⟩, v2), (.string ⟨#[62, 61]⟩, v3)] 0).toArray 4)) = .ok v1 (w.alloc (.map (ents [(.string ⟨#[60]⟩, v0), (.string ⟨#[60, 61]⟩, v1), (.string ⟨#[62]⟩, v2), (.string ⟨#[62, 61]⟩, v3)] 0).toArray 4)) :=
    fun v0 v1 v2 v3 => run_lookup_lit Tryd.underlying111 Tryd.underlying9 rfl [(.string ⟨#[60]⟩, v0), (.string ⟨#[60, 61]⟩, v1), (.string ⟨#[62]⟩, v2), (.string ⟨#[62, 61]⟩, v3)] 4 _ _ v1 (heap_alloc_new w _) rfl false
  go_enter Tryd.func61, Tryd.ntmps61
  go_wp2_with (go_at_call 75; refine (cmpI_any _ _ _).mono ?_; rintro e w' ⟨rfl, rfl⟩)
  go_ret
  exact ⟨rfl, (Ext.refl w).alloc _⟩

theorem holdsI_2 (a b : Int) (w : World) : Calls Tryd.prog 61 #[.string ⟨#[62]⟩, .int .i64 a, .int .i64 b] w fun e w' => e = .returned (.bool (ordI 2 a b)) ∧ Ext w w' := by
  have hmm := @run_makeMap Tryd.prog
  have i0 : ∀  v : Value, (Instr.mapUpdate 111 (.map (some w.heap.size)) (.string ⟨#[60]⟩) v).run Tryd.prog (w.alloc (.map #[] 0)) = .ok () (w.alloc (.map (ents [(.string ⟨#[60]⟩, v)] 0).toArray 1)) :=
    fun  v => run_insert_lit Tryd.underlying111 Tryd.underlying9 rfl [] 0 _ v rfl rfl w
  have i1 : ∀  v0 v : Value, (Instr.mapUpdate 111 (.map (some w.heap.size)) (.string ⟨#[60, 61]⟩) v).run Tryd.prog (w.alloc (.map (ents [(.string ⟨#[60]⟩, v0)] 0).toArray 1)) = .ok () (w.alloc (.map (ents [(.string ⟨#[60]⟩, v0), (.string ⟨#[60, 61]⟩, v)] 0).toArray 2)) :=
    fun  v0 v => run_insert_lit Tryd.underlying111 Tryd.underlying9 rfl [(.string ⟨#[60]⟩, v0)] 1 _ v rfl rfl w
  have i2 : ∀  v0 v1 v : Value, (Instr.mapUpdate 111 (.map (some w.heap.size)) (.string ⟨#[62]⟩) v).run Tryd.prog (w.alloc (.map (ents [(.string ⟨#[60]⟩, v0), (.string ⟨#[60, 61]⟩, v1)] 0).toArray 2)) = .ok () (w.alloc (.map (ents [(.string ⟨#[60]⟩, v0), (.string ⟨#[60, 61]⟩, v1), (.string ⟨#[62]⟩, v)] 0).toArray 3)) :=
    fun  v0 v1 v => run_insert_lit Tryd.underlying111 Tryd.underlying9 rfl [(.string ⟨#[60]⟩, v0), (.string ⟨#[60, 61]⟩, v1)] 2 _ v rfl rfl w
  have i3 : ∀  v0 v1 v2 v : Value, (Instr.mapUpdate 111 (.map (some w.heap.size)) (.string ⟨#[62, 61]⟩) v).run Tryd.prog (w.alloc (.map (ents [(.string ⟨#[60]⟩, v0), (.string ⟨#[60, 61]⟩, v1), (.string ⟨#[62]⟩, v2)] 0).toArray 3)) = .ok () (w.alloc (.map (ents [(.string ⟨#[60]⟩, v0), (.string ⟨#[60, 61]⟩, v1), (.string ⟨#[62]⟩, v2), (.string ⟨#[62, 61]⟩, v)] 0).toArray 4)) :=
    fun  v0 v1 v2 v => run_insert_lit Tryd.underlying111 Tryd.underlying9 rfl [(.string ⟨#[60]⟩, v0), (.string ⟨#[60, 61]⟩, v1), (.string ⟨#[62]⟩, v2)] 3 _ v rfl rfl w
  have l0 : ∀ v0 v1 v2 v3 : Value, (Instr.lookup 111 (.map (some w.heap.size)) (.string ⟨#[62]⟩) false).run Tryd.prog (w.alloc (.map (ents [(.string ⟨#[60]⟩, v0), (.string ⟨#[60, 61]⟩, v1), (.string ⟨#[62]⟩, v2), (.string ⟨#[62, 61]⟩, v3)] 0).toArray 4)) = .ok v2 (w.alloc (.map (ents [(.string ⟨#[60]⟩, v0), (.string ⟨#[60, 61]⟩, v1), (.string ⟨#[62]⟩, v2), (.string ⟨#[62, 61]⟩, v3)] 0).toArray 4)) :=
    fun v0 v1 v2 v3 => run_lookup_lit Tryd.underlying111 Tryd.underlying9 rfl [(.string ⟨#[60]⟩, v0), (.string ⟨#[60, 61]⟩, v1), (.string ⟨#[62]⟩, v2), (.string ⟨#[62, 61]⟩, v3)] 4 _ _ v2 (heap_alloc_new w _) rfl false
  go_enter Tryd.func61, Tryd.ntmps61
  go_wp2_with (go_at_call 75; refine (cmpI_any _ _ _).mono ?_; rintro e w' ⟨rfl, rfl⟩)
  go_ret
  exact ⟨rfl, (Ext.refl w).alloc _⟩

theorem holdsI_3 (a b : Int) (w : World) : Calls Tryd.prog 61 #[.string ⟨#[62, 61]⟩, .int .i64 a, .int .i64 b] w fun e w' => e = .returned (.bool (ordI 3 a b)) ∧ Ext w w' := by
  have hmm := @run_makeMap Tryd.prog
  have i0 : ∀  v : Value, (Instr.mapUpdate 111 (.map (some w.heap.size)) (.string ⟨#[60]⟩) v).run Tryd.prog (w.alloc (.map #[] 0)) = .ok () (w.alloc (.map (ents [(.string ⟨#[60]⟩, v)] 0).toArray 1)) :=
    fun  v => run_insert_lit Tryd.underlying111 Tryd.underlying9 rfl [] 0 _ v rfl rfl w
  have i1 : ∀  v0 v : Value, (Instr.mapUpdate 111 (.map (some w.heap.size)) (.string ⟨#[60, 61]⟩) v).run Tryd.prog (w.alloc (.map (ents [(.string ⟨#[60]⟩, v0)] 0).toArray 1)) = .ok () (w.alloc (.map (ents [(.string ⟨#[60]⟩, v0), (.string ⟨#[60, 61]⟩, v)] 0).toArray 2)) :=
    fun  v0 v => run_insert_lit Tryd.underlying111 Tryd.underlying9 rfl [(.string ⟨#[60]⟩, v0)] 1 _ v rfl rfl w
  have i2 : ∀  v0 v1 v : Value, (Instr.mapUpdate 111 (.map (some w.heap.size)) (.string ⟨#[62]⟩) v).run Tryd.prog (w.alloc (.map (ents [(.string ⟨#[60]⟩, v0), (.string ⟨#[60, 61]⟩, v1)] 0).toArray 2)) = .ok () (w.alloc (.map (ents [(.string ⟨#[60]⟩, v0), (.string ⟨#[60, 61]⟩, v1), (.string ⟨#[62]⟩, v)] 0).toArray 3)) :=
    fun  v0 v1 v => run_insert_lit Tryd.underlying111 Tryd.underlying9 rfl [(.string ⟨#[60]⟩, v0), (.string ⟨#[60, 61]⟩, v1)] 2 _ v rfl rfl w
  have i3 : ∀  v0 v1 v2 v : Value, (Instr.mapUpdate 111 (.map (some w.heap.size)) (.string ⟨#[62, 61]⟩) v).run Tryd.prog (w.alloc (.map (ents [(.string ⟨#[60]⟩, v0), (.string ⟨#[60, 61]⟩, v1), (.string ⟨#[62]⟩, v2)] 0).toArray 3)) = .ok () (w.alloc (.map (ents [(.string ⟨#[60]⟩, v0), (.string ⟨#[60, 61]⟩, v1), (.string ⟨#[62]⟩, v2), (.string ⟨#[62, 61]⟩, v)] 0).toArray 4)) :=
    fun  v0 v1 v2 v => run_insert_lit Tryd.underlying111 Tryd.underlying9 rfl [(.string ⟨#[60]⟩, v0), (.string ⟨#[60, 61]⟩, v1), (.string ⟨#[62]⟩, v2)] 3 _ v rfl rfl w
  have l0 : ∀ v0 v1 v2 v3 : Value, (Instr.lookup 111 (.map (some w.heap.size)) (.string ⟨#[62, 61]⟩) false).run Tryd.prog (w.alloc (.map (ents [(.string ⟨#[60]⟩, v0), (.string ⟨#[60, 61]⟩, v1), (.string ⟨#[62]⟩, v2), (.string ⟨#[62, 61]⟩, v3)] 0).toArray 4)) = .ok v3 (w.alloc (.map (ents [(.string ⟨#[60]⟩, v0), (.string ⟨#[60, 61]⟩, v1), (.string ⟨#[62]⟩, v2), (.string ⟨#[62, 61]⟩, v3)] 0).toArray 4)) :=
    fun v0 v1 v2 v3 => run_lookup_lit Tryd.underlying111 Tryd.underlying9 rfl [(.string ⟨#[60]⟩, v0), (.string ⟨#[60, 61]⟩, v1), (.string ⟨#[62]⟩, v2), (.string ⟨#[62, 61]⟩, v3)] 4 _ _ v3 (heap_alloc_new w _) rfl false
  go_enter Tryd.func61, Tryd.ntmps61
  go_wp2_with (go_at_call 75; refine (cmpI_any _ _ _).mono ?_; rintro e w' ⟨rfl, rfl⟩)
  go_ret
  exact ⟨rfl, (Ext.refl w).alloc _⟩

theorem holdsS_0 (a b : ByteArray) (w : World) : Calls Tryd.prog 62 #[.string ⟨#[60]⟩, .string a, .string b] w fun e w' => e = .returned (.bool (ordS 0 a b)) ∧ Ext w w' := by
  have hmm := @run_makeMap Tryd.prog
  have i0 : ∀  v : Value, (Instr.mapUpdate 111 (.map (some w.heap.size)) (.string ⟨#[60]⟩) v).run Tryd.prog (w.alloc (.map #[] 0)) = .ok () (w.alloc (.map (ents [(.string ⟨#[60]⟩, v)] 0).toArray 1)) :=
    fun  v => run_insert_lit Tryd.underlying111 Tryd.underlying9 rfl [] 0 _ v rfl rfl w
  have i1 : ∀  v0 v : Value, (Instr.mapUpdate 111 (.map (some w.heap.size)) (.string ⟨#[60, 61]⟩) v).run Tryd.prog (w.alloc (.map (ents [(.string ⟨#[60]⟩, v0)] 0).toArray 1)) = .ok () (w.alloc (.map (ents [(.string ⟨#[60]⟩, v0), (.string ⟨#[60, 61]⟩, v)] 0).toArray 2)) :=
    fun  v0 v => run_insert_lit Tryd.underlying111 Tryd.underlying9 rfl [(.string ⟨#[60]⟩, v0)] 1 _ v rfl rfl w
  have i2 : ∀  v0 v1 v : Value, (Instr.mapUpdate 111 (.map (some w.heap.size)) (.string ⟨#[62]⟩) v).run Tryd.prog (w.alloc (.map (ents [(.string ⟨#[60]⟩, v0), (.string ⟨#[60, 61]⟩, v1)] 0).toArray 2)) = .ok () (w.alloc (.map (ents [(.string ⟨#[60]⟩, v0), (.string ⟨#[60, 61]⟩, v1), (.string ⟨#[62]⟩, v)] 0).toArray 3)) :=
    fun  v0 v1 v => run_insert_lit Tryd.underlying111 Tryd.underlying9 rfl [(.string ⟨#[60]⟩, v0), (.string ⟨#[60, 61]⟩, v1)] 2 _ v rfl rfl w
  have i3 : ∀  v0 v1 v2 v : Value, (Instr.mapUpdate 111 (.map (some w.heap.size)) (.string ⟨#[62, 61]⟩) v).run Tryd.prog (w.alloc (.map (ents [(.string ⟨#[60]⟩, v0), (.string ⟨#[60, 61]⟩, v1), (.string ⟨#[62]⟩, v2)] 0).toArray 3)) = .ok () (w.alloc (.map (ents [(.string ⟨#[60]⟩, v0), (.string ⟨#[60, 61]⟩, v1), (.string ⟨#[62]⟩, v2), (.string ⟨#[62, 61]⟩, v)] 0).toArray 4)) :=
    fun  v0 v1 v2 v => run_insert_lit Tryd.underlying111 Tryd.underlying9 rfl [(.string ⟨#[60]⟩, v0), (.string ⟨#[60, 61]⟩, v1), (.string ⟨#[62]⟩, v2)] 3 _ v rfl rfl w
  have l0 : ∀ v0 v1 v2 v3 : Value, (Instr.lookup 111 (.map (some w.heap.size)) (.string ⟨#[60]⟩) false).run Tryd.prog (w.alloc (.map (ents [(.string ⟨#[60]⟩, v0), (.string ⟨#[60, 61]⟩, v1), (.string ⟨#[62]⟩, v2), (.string ⟨#[62, 61]⟩, v3)] 0).toArray 4)) = .ok v0 (w.alloc (.map (ents [(.string ⟨#[60]⟩, v0), (.string ⟨#[60, 61]⟩, v1), (.string ⟨#[62]⟩, v2), (.string ⟨#[62, 61]⟩, v3)] 0).toArray 4)) :=
    fun v0 v1 v2 v3 => run_lookup_lit Tryd.underlying111 Tryd.underlying9 rfl [(.string ⟨#[60]⟩, v0), (.string ⟨#[60, 61]⟩, v1), (.string ⟨#[62]⟩, v2), (.string ⟨#[62, 61]⟩, v3)] 4 _ _ v0 (heap_alloc_new w _) rfl false
  go_enter Tryd.func62, Tryd.ntmps62
  go_wp2_with (go_at_call 76; refine (cmpS_any _ _ _).mono ?_; rintro e w' ⟨rfl, rfl⟩)
  go_ret
  exact ⟨rfl, (Ext.refl w).alloc _⟩

theorem holdsS_1 (a b : ByteArray) (w : World) : Calls Tryd.prog 62 #[.string ⟨#[60, 61]⟩, .string a, .string b] w fun e w' => e = .returned (.bool (ordS 1 a b)) ∧ Ext w w' := by
  have hmm := @run_makeMap Tryd.prog
  have i0 : ∀  v : Value, (Instr.mapUpdate 111 (.map (some w.heap.size)) (.string ⟨#[60]⟩) v).run Tryd.prog (w.alloc (.map #[] 0)) = .ok () (w.alloc (.map (ents [(.string ⟨#[60]⟩, v)] 0).toArray 1)) :=
    fun  v => run_insert_lit Tryd.underlying111 Tryd.underlying9 rfl [] 0 _ v rfl rfl w
  have i1 : ∀  v0 v : Value, (Instr.mapUpdate 111 (.map (some w.heap.size)) (.string ⟨#[60, 61]⟩) v).run Tryd.prog (w.alloc (.map (ents [(.string ⟨#[60]⟩, v0)] 0).toArray 1)) = .ok () (w.alloc (.map (ents [(.string ⟨#[60]⟩, v0), (.string ⟨#[60, 61]⟩, v)] 0).toArray 2)) :=
    fun  v0 v => run_insert_lit Tryd.underlying111 Tryd.underlying9 rfl [(.string ⟨#[60]⟩, v0)] 1 _ v rfl rfl w
  have i2 : ∀  v0 v1 v : Value, (Instr.mapUpdate 111 (.map (some w.heap.size)) (.string ⟨#[62]⟩) v).run Tryd.prog (w.alloc (.map (ents [(.string ⟨#[60]⟩, v0), (.string ⟨#[60, 61]⟩, v1)] 0).toArray 2)) = .ok () (w.alloc (.map (ents [(.string ⟨#[60]⟩, v0), (.string ⟨#[60, 61]⟩, v1), (.string ⟨#[62]⟩, v)] 0).toArray 3)) :=
    fun  v0 v1 v => run_insert_lit Tryd.underlying111 Tryd.underlying9 rfl [(.string ⟨#[60]⟩, v0), (.string ⟨#[60, 61]⟩, v1)] 2 _ v rfl rfl w
  have i3 : ∀  v0 v1 v2 v : Value, (Instr.mapUpdate 111 (.map (some w.heap.size)) (.string ⟨#[62, 61]⟩) v).run Tryd.prog (w.alloc (.map (ents [(.string ⟨#[60]⟩, v0), (.string ⟨#[60, 61]⟩, v1), (.string ⟨#[62]⟩, v2)] 0).toArray 3)) = .ok () (w.alloc (.map (ents [(.string ⟨#[60]⟩, v0), (.string ⟨#[60, 61]⟩, v1), (.string ⟨#[62]⟩, v2), (.string ⟨#[62, 61]⟩, v)] 0).toArray 4)) :=
    fun  v0 v1 v2 v => run_insert_lit Tryd.underlying111 Tryd.underlying9 rfl [(.string ⟨#[60]⟩, v0), (.string ⟨#[60, 61]⟩, v1), (.string ⟨#[62]⟩, v2)] 3 _ v rfl rfl w
  have l0 : ∀ v0 v1 v2 v3 : Value, (Instr.lookup 111 (.map (some w.heap.size)) (.string ⟨#[60, 61]⟩) false).run Tryd.prog (w.alloc (.map (ents [(.string ⟨#[60]⟩, v0), (.string ⟨#[60, 61]⟩, v1), (.string ⟨#[62]⟩, v2), (.string ⟨#[62, 61]⟩, v3)] 0).toArray 4)) = .ok v1 (w.alloc (.map (ents [(.string ⟨#[60]⟩, v0), (.string ⟨#[60, 61]⟩, v1), (.string ⟨#[62]⟩, v2), (.string ⟨#[62, 61]⟩, v3)] 0).toArray 4)) :=
    fun v0 v1 v2 v3 => run_lookup_lit Tryd.underlying111 Tryd.underlying9 rfl [(.string ⟨#[60]⟩, v0), (.string ⟨#[60, 61]⟩, v1), (.string ⟨#[62]⟩, v2), (.string ⟨#[62, 61]⟩, v3)] 4 _ _ v1 (heap_alloc_new w _) rfl false
  go_enter Tryd.func62, Tryd.ntmps62
  go_wp2_with (go_at_call 76; refine (cmpS_any _ _ _).mono ?_; rintro e w' ⟨rfl, rfl⟩)
  go_ret
  exact ⟨rfl, (Ext.refl w).alloc _⟩

theorem holdsS_2 (a b : ByteArray) (w : World) : Calls Tryd.prog 62 #[.string ⟨#[62]⟩, .string a, .string b] w fun e w' => e = .returned (.bool (ordS 2 a b)) ∧ Ext w w' := by
  have hmm := @run_makeMap Tryd.prog
  have i0 : ∀  v : Value, (Instr.mapUpdate 111 (.map (some w.heap.size)) (.string ⟨#[60]⟩) v).run Tryd.prog (w.alloc (.map #[] 0)) = .ok () (w.alloc (.map (ents [(.string ⟨#[60]⟩, v)] 0).toArray 1)) :=
    fun  v => run_insert_lit Tryd.underlying111 Tryd.underlying9 rfl [] 0 _ v rfl rfl w
  have i1 : ∀  v0 v : Value, (Instr.mapUpdate 111 (.map (some w.heap.size)) (.string ⟨#[60, 61]⟩) v).run Tryd.prog (w.alloc (.map (ents [(.string ⟨#[60]⟩, v0)] 0).toArray 1)) = .ok () (w.alloc (.map (ents [(.string ⟨#[60]⟩, v0), (.string ⟨#[60, 61]⟩, v)] 0).toArray 2)) :=
    fun  v0 v => run_insert_lit Tryd.underlying111 Tryd.underlying9 rfl [(.string ⟨#[60]⟩, v0)] 1 _ v rfl rfl w
  have i2 : ∀  v0 v1 v : Value, (Instr.mapUpdate 111 (.map (some w.heap.size)) (.string ⟨#[62]⟩) v).run Tryd.prog (w.alloc (.map (ents [(.string ⟨#[60]⟩, v0), (.string ⟨#[60, 61]⟩, v1)] 0).toArray 2)) = .ok () (w.alloc (.map (ents [(.string ⟨#[60]⟩, v0), (.string ⟨#[60, 61]⟩, v1), (.string ⟨#[62]⟩, v)] 0).toArray 3)) :=
    fun  v0 v1 v => run_insert_lit Tryd.underlying111 Tryd.underlying9 rfl [(.string ⟨#[60]⟩, v0), (.string ⟨#[60, 61]⟩, v1)] 2 _ v rfl rfl w
  have i3 : ∀  v0 v1 v2 v : Value, (Instr.mapUpdate 111 (.map (some w.heap.size)) (.string ⟨#[62, 61]⟩) v).run Tryd.prog (w.alloc (.map (ents [(.string ⟨#[60]⟩, v0), (.string ⟨#[60, 61]⟩, v1), (.string ⟨#[62]⟩, v2)] 0).toArray 3)) = .ok () (w.alloc (.map (ents [(.string ⟨#[60]⟩, v0), (.string ⟨#[60, 61]⟩, v1), (.string ⟨#[62]⟩, v2), (.string ⟨#[62, 61]⟩, v)] 0).toArray 4)) :=
    fun  v0 v1 v2 v => run_insert_lit Tryd.underlying111 Tryd.underlying9 rfl [(.string ⟨#[60]⟩, v0), (.string ⟨#[60, 61]⟩, v1), (.string ⟨#[62]⟩, v2)] 3 _ v rfl rfl w
  have l0 : ∀ v0 v1 v2 v3 : Value, (Instr.lookup 111 (.map (some w.heap.size)) (.string ⟨#[62]⟩) false).run Tryd.prog (w.alloc (.map (ents [(.string ⟨#[60]⟩, v0), (.string ⟨#[60, 61]⟩, v1), (.string ⟨#[62]⟩, v2), (.string ⟨#[62, 61]⟩, v3)] 0).toArray 4)) = .ok v2 (w.alloc (.map (ents [(.string ⟨#[60]⟩, v0), (.string ⟨#[60, 61]⟩, v1), (.string ⟨#[62]⟩, v2), (.string ⟨#[62, 61]⟩, v3)] 0).toArray 4)) :=
    fun v0 v1 v2 v3 => run_lookup_lit Tryd.underlying111 Tryd.underlying9 rfl [(.string ⟨#[60]⟩, v0), (.string ⟨#[60, 61]⟩, v1), (.string ⟨#[62]⟩, v2), (.string ⟨#[62, 61]⟩, v3)] 4 _ _ v2 (heap_alloc_new w _) rfl false
  go_enter Tryd.func62, Tryd.ntmps62
  go_wp2_with (go_at_call 76; refine (cmpS_any _ _ _).mono ?_; rintro e w' ⟨rfl, rfl⟩)
  go_ret
  exact ⟨rfl, (Ext.refl w).alloc _⟩

theorem holdsS_3 (a b : ByteArray) (w : World) : Calls Tryd.prog 62 #[.string ⟨#[62, 61]⟩, .string a, .string b] w fun e w' => e = .returned (.bool (ordS 3 a b)) ∧ Ext w w' := by
  have hmm := @run_makeMap Tryd.prog
  have i0 : ∀  v : Value, (Instr.mapUpdate 111 (.map (some w.heap.size)) (.string ⟨#[60]⟩) v).run Tryd.prog (w.alloc (.map #[] 0)) = .ok () (w.alloc (.map (ents [(.string ⟨#[60]⟩, v)] 0).toArray 1)) :=
    fun  v => run_insert_lit Tryd.underlying111 Tryd.underlying9 rfl [] 0 _ v rfl rfl w
  have i1 : ∀  v0 v : Value, (Instr.mapUpdate 111 (.map (some w.heap.size)) (.string ⟨#[60, 61]⟩) v).run Tryd.prog (w.alloc (.map (ents [(.string ⟨#[60]⟩, v0)] 0).toArray 1)) = .ok () (w.alloc (.map (ents [(.string ⟨#[60]⟩, v0), (.string ⟨#[60, 61]⟩, v)] 0).toArray 2)) :=
    fun  v0 v => run_insert_lit Tryd.underlying111 Tryd.underlying9 rfl [(.string ⟨#[60]⟩, v0)] 1 _ v rfl rfl w
  have i2 : ∀  v0 v1 v : Value, (Instr.mapUpdate 111 (.map (some w.heap.size)) (.string ⟨#[62]⟩) v).run Tryd.prog (w.alloc (.map (ents [(.string ⟨#[60]⟩, v0), (.string ⟨#[60, 61]⟩, v1)] 0).toArray 2)) = .ok () (w.alloc (.map (ents [(.string ⟨#[60]⟩, v0), (.string ⟨#[60, 61]⟩, v1), (.string ⟨#[62]⟩, v)] 0).toArray 3)) :=
    fun  v0 v1 v => run_insert_lit Tryd.underlying111 Tryd.underlying9 rfl [(.string ⟨#[60]⟩, v0), (.string ⟨#[60, 61]⟩, v1)] 2 _ v rfl rfl w
  have i3 : ∀  v0 v1 v2 v : Value, (Instr.mapUpdate 111 (.map (some w.heap.size)) (.string ⟨#[62, 61]⟩) v).run Tryd.prog (w.alloc (.map (ents [(.string ⟨#[60]⟩, v0), (.string ⟨#[60, 61]⟩, v1), (.string ⟨#[62]⟩, v2)] 0).toArray 3)) = .ok () (w.alloc (.map (ents [(.string ⟨#[60]⟩, v0), (.string ⟨#[60, 61]⟩, v1), (.string ⟨#[62]⟩, v2), (.string ⟨#[62, 61]⟩, v)] 0).toArray 4)) :=
    fun  v0 v1 v2 v => run_insert_lit Tryd.underlying111 Tryd.underlying9 rfl [(.string ⟨#[60]⟩, v0), (.string ⟨#[60, 61]⟩, v1), (.string ⟨#[62]⟩, v2)] 3 _ v rfl rfl w
  have l0 : ∀ v0 v1 v2 v3 : Value, (Instr.lookup 111 (.map (some w.heap.size)) (.string ⟨#[62, 61]⟩) false).run Tryd.prog (w.alloc (.map (ents [(.string ⟨#[60]⟩, v0), (.string ⟨#[60, 61]⟩, v1), (.string ⟨#[62]⟩, v2), (.string ⟨#[62, 61]⟩, v3)] 0).toArray 4)) = .ok v3 (w.alloc (.map (ents [(.string ⟨#[60]⟩, v0), (.string ⟨#[60, 61]⟩, v1), (.string ⟨#[62]⟩, v2), (.string ⟨#[62, 61]⟩, v3)] 0).toArray 4)) :=
    fun v0 v1 v2 v3 => run_lookup_lit Tryd.underlying111 Tryd.underlying9 rfl [(.string ⟨#[60]⟩, v0), (.string ⟨#[60, 61]⟩, v1), (.string ⟨#[62]⟩, v2), (.string ⟨#[62, 61]⟩, v3)] 4 _ _ v3 (heap_alloc_new w _) rfl false
  go_enter Tryd.func62, Tryd.ntmps62
  go_wp2_with (go_at_call 76; refine (cmpS_any _ _ _).mono ?_; rintro e w' ⟨rfl, rfl⟩)
  go_ret
  exact ⟨rfl, (Ext.refl w).alloc _⟩
end Go.Proofs.YtidjibghicejaaaDoor
