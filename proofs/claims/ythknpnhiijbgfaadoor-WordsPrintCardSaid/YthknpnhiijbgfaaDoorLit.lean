/- A map whose keys are known, written entry by entry; strings for keys. -/
import Derived.Test.YthknpnhiijbgfaaDoorMap
import Derived.Test.YthknpnhiijbgfaaDoorProg
namespace Go.Proofs.YthknpnhiijbgfaaDoor
open Go.RowKit
set_option linter.unusedVariables false
set_option linter.unusedSimpArgs false

section
variable {P : Program} {T K E : TypeId} {kind : TypeDesc}
theorem run_insert_at (hT : P.underlying T = some (.map K E)) (hK : P.underlying K = some kind) (hk : plainKind kind = true) (l : List (Value × Value)) (n r : Nat) (k v : Value) {w : World} (hb : w.heap[r]? = some (.map (ents l 0).toArray n)) (hn : n = l.length) (h : noKey kind k l = true) :
    ∃ w1, (Instr.mapUpdate T (.map (some r)) k v).run P w = .ok () w1 ∧ w1.heap[r]? = some (.map (ents (l ++ [(k, v)]) 0).toArray (n + 1)) ∧ (∀ i, i ≠ r → w1.heap[i]? = w.heap[i]?) ∧ w1.heap.size = w.heap.size ∧ w1.os = w.os ∧ w1.tape = w.tape ∧ w1.output = w.output := by
  subst hn
  have hr : r < w.heap.size := by
    rcases Nat.lt_or_ge r w.heap.size with hlt | hge
    · exact hlt
    · rw [Array.getElem?_eq_none hge] at hb; cases hb
  refine ⟨{ w with heap := w.heap.setIfInBounds r (.map (ents (l ++ [(k, v)]) 0).toArray (l.length + 1)) }, ?_, ?_, ?_, ?_, rfl, rfl, rfl⟩
  · simp only [Instr.mapUpdate, Sem.run_bind, run_underlying hT, Result.andThen_ok, MapKept.run_getObj_map hb, run_checkKey_plain hK hk, run_findKey_plain hK (findNow_none h 0 0)]
    simp only [MapKept.run_setObj_map _ hb, List.push_toArray]
    rw [ents_append]
    simp only [Nat.zero_add]
  · simp [hr]
  · intro i hi; simp [Array.getElem?_setIfInBounds, Ne.symm hi]
  · simp
end
theorem Ext.map_ {a w w1 : World} {r : Nat} (h : Ext a w) (hr : a.heap.size ≤ r) (h1 : ∀ i, i ≠ r → w1.heap[i]? = w.heap[i]?) (h2 : w1.heap.size = w.heap.size) (h3 : w1.os = w.os) (h4 : w1.tape = w.tape) (h5 : w1.output = w.output) : Ext a w1 :=
  ⟨h3.trans h.os, h4.trans h.tape, h5.trans h.output, h2 ▸ h.size, fun i hi => (h1 i (by omega)).trans (h.block i hi)⟩
/-- Each text once. -/
def onesM (l : List ByteArray) : List (Value × Value) := l.map fun s => (.string s, .int .i64 1)
theorem onesM_len (l : List ByteArray) : (onesM l).length = l.length := by simp [onesM]
theorem onesM_snoc (l : List ByteArray) (x : ByteArray) : onesM (l ++ [x]) = onesM l ++ [(.string x, .int .i64 1)] := by simp [onesM]
theorem beq_flip (a b : Array UInt8) : (a == b) = (b == a) := by rw [Bool.eq_iff_iff, beq_iff_eq, beq_iff_eq]; exact eq_comm
theorem same_str (s x : ByteArray) : Instr.sameNow .string (.string s) (.string x) = some (x.data == s.data) := by
  show some (s == x) = _
  rw [show (s == x) = (s.data == x.data) from rfl, beq_flip]
theorem ones_no (s : ByteArray) : ∀ l : List ByteArray, (l.any fun x => x.data == s.data) = false → noKey .string (.string s) (onesM l) = true
  | [], _ => rfl
  | x :: l, h => by
    rw [List.any_cons, Bool.or_eq_false_iff] at h
    have := ones_no s l h.2
    simp only [noKey, onesM, List.map_cons, List.all_cons, same_str, h.1, beq_self_eq_true, Bool.true_and] at this ⊢
    exact this
theorem ones_yes (s : ByteArray) : ∀ l : List ByteArray, (l.any fun x => x.data == s.data) = true → under .string (.string s) (onesM l) = some (.int .i64 1)
  | x :: l, h => by
    simp only [onesM, List.map_cons, under, same_str]
    cases hx : (x.data == s.data)
    · rw [List.any_cons, hx, Bool.false_or] at h
      simp only [Option.some.injEq, Bool.false_eq_true, if_false, if_true]
      exact ones_yes s l h
    · simp
theorem zero_int (w : World) : (zeroValue 3).run Tryd.prog w = .ok (.int .i64 0) w := by kernel_rfl
end Go.Proofs.YthknpnhiijbgfaaDoor
