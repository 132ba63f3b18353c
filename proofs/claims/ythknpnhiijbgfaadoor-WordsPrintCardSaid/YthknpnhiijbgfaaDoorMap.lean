/- Map literals whose keys are known, as they are made, entry by entry; what is looked up in them. -/
import Derived.Test.YthknpnhiijbgfaaDoorBase
import Derived.ChangeMaps4
import Derived.MapKept
namespace Go.Proofs.YthknpnhiijbgfaaDoor
open Go.RowKit
set_option linter.unusedVariables false

/-- The entries of a map literal, in order. -/
def ents : List (Value × Value) → Nat → List MapEntry
  | [], _ => []
  | x :: l, i => ⟨x.1, x.2, i⟩ :: ents l (i + 1)
theorem ents_append (x : Value × Value) : ∀ (l : List (Value × Value)) (i : Nat), ents (l ++ [x]) i = ents l i ++ [⟨x.1, x.2, i + l.length⟩]
  | [], i => rfl
  | y :: l, i => by simp only [List.cons_append, ents, ents_append x l (i + 1), List.length_cons]; congr 3; simp [Nat.add_comm, Nat.add_left_comm]
/-- Is a key none of a literal's; is it one's, and what is under it. -/
def noKey (kind : TypeDesc) (k : Value) (l : List (Value × Value)) : Bool := l.all fun x => Instr.sameNow kind k x.1 == some false
def under (kind : TypeDesc) (k : Value) : List (Value × Value) → Option Value
  | [] => none
  | x :: l => if Instr.sameNow kind k x.1 = some true then some x.2 else if Instr.sameNow kind k x.1 = some false then under kind k l else none
theorem findNow_none {kind : TypeDesc} {k : Value} : ∀ {l : List (Value × Value)} (h : noKey kind k l = true) (i j : Nat), Instr.findNow kind k (ents l i) j = some none
  | [], _, _, _ => rfl
  | x :: l, h, i, j => by
    simp only [noKey, List.all_cons, Bool.and_eq_true, beq_iff_eq] at h
    simp only [ents, Instr.findNow, h.1]
    exact findNow_none (l := l) h.2 (i + 1) (j + 1)
theorem findNow_some {kind : TypeDesc} {k v : Value} : ∀ {l : List (Value × Value)} (h : under kind k l = some v) (i j : Nat), ∃ n, Instr.findNow kind k (ents l i) j = some (some (n, v))
  | x :: l, h, i, j => by
    unfold under at h
    split at h
    · rename_i h1
      obtain rfl := Option.some.inj h
      exact ⟨j, by simp only [ents, Instr.findNow, h1]⟩
    · split at h
      · rename_i h2
        obtain ⟨n, hn⟩ := findNow_some (l := l) h (i + 1) (j + 1)
        exact ⟨n, by simp only [ents, Instr.findNow, h2]; exact hn⟩
      · cases h

theorem alloc_set (w : World) (o o' : Obj) : ({ w.alloc o with heap := (w.alloc o).heap.setIfInBounds w.heap.size o' } : World) = w.alloc o' := by
  have e : (w.heap.push o).setIfInBounds w.heap.size o' = w.heap.push o' := by
    apply Array.ext_getElem?
    intro i
    simp only [Array.getElem?_setIfInBounds, Array.getElem?_push, Array.size_push]
    split <;> split <;> simp_all <;> omega
  show ({ w with heap := (w.heap.push o).setIfInBounds w.heap.size o' } : World) = { w with heap := w.heap.push o' }
  rw [e]
section
variable {P : Program} {T K E : TypeId} {kind : TypeDesc}
/-- A key's kind that is compared at once. -/
def plainKind : TypeDesc → Bool
  | .int _ | .string => true
  | _ => false
theorem run_checkKey_plain (hK : P.underlying K = some kind) (hk : plainKind kind = true) (b : Bool) (k : Value) (w : World) : (Instr.checkKey b 10000 K k).run P w = .ok () w := by
  unfold Instr.checkKey
  simp only [Sem.run_bind, run_underlying hK, Result.andThen_ok]
  cases kind <;> first | (cases k <;> rfl; done) | (simp [plainKind] at hk; done)
theorem run_findKey_plain (hK : P.underlying K = some kind) {k : Value} {es : List MapEntry} {r : Option (Nat × Value)} (h : Instr.findNow kind k es 0 = some r) (w : World) : (Instr.findKey K k es).run P w = .ok r w := by
  simp [Instr.findKey, run_underlying hK, h]

theorem run_insert_lit (hT : P.underlying T = some (.map K E)) (hK : P.underlying K = some kind) (hk : plainKind kind = true) (l : List (Value × Value)) (n : Nat) (k v : Value) (hn : n = l.length) (h : noKey kind k l = true) (w : World) :
    (Instr.mapUpdate T (.map (some w.heap.size)) k v).run P (w.alloc (.map (ents l 0).toArray n)) = .ok () (w.alloc (.map (ents (l ++ [(k, v)]) 0).toArray (n + 1))) := by
  have hb : (w.alloc (.map (ents l 0).toArray n)).heap[w.heap.size]? = some (.map (ents l 0).toArray n) := heap_alloc_new w _
  subst hn
  simp only [Instr.mapUpdate, Sem.run_bind, run_underlying hT, Result.andThen_ok, MapKept.run_getObj_map hb, run_checkKey_plain hK hk, run_findKey_plain hK (findNow_none h 0 0)]
  simp only [MapKept.run_setObj_map _ hb, List.push_toArray]
  rw [ents_append]
  simp only [Nat.zero_add]
  exact congrArg (Result.ok ()) (alloc_set w _ _)

theorem run_lookup_lit (hT : P.underlying T = some (.map K E)) (hK : P.underlying K = some kind) (hk : plainKind kind = true) (l : List (Value × Value)) (n r : Nat) (k v : Value) {w : World} (hb : w.heap[r]? = some (.map (ents l 0).toArray n)) (h : under kind k l = some v) (ok : Bool) :
    (Instr.lookup T (.map (some r)) k ok).run P w = .ok (if ok then .tuple #[v, .bool true] else v) w := by
  obtain ⟨m, hm⟩ := findNow_some h 0 0
  simp only [Instr.lookup, Sem.run_bind, run_underlying hT, Result.andThen_ok, MapKept.run_getObj_map hb, Sem.run_pure, run_checkKey_plain hK hk, run_findKey_plain hK hm]
theorem run_lookup_none (hT : P.underlying T = some (.map K E)) (hK : P.underlying K = some kind) (hk : plainKind kind = true) (l : List (Value × Value)) (n r : Nat) (k z : Value) {w : World} (hz : (zeroValue E).run P w = .ok z w) (hb : w.heap[r]? = some (.map (ents l 0).toArray n)) (h : noKey kind k l = true) (ok : Bool) :
    (Instr.lookup T (.map (some r)) k ok).run P w = .ok (if ok then .tuple #[z, .bool false] else z) w := by
  simp only [Instr.lookup, Sem.run_bind, run_underlying hT, Result.andThen_ok, MapKept.run_getObj_map hb, Sem.run_pure, run_checkKey_plain hK hk, run_findKey_plain hK (findNow_none h 0 0), hz]
end
end Go.Proofs.YthknpnhiijbgfaaDoor
