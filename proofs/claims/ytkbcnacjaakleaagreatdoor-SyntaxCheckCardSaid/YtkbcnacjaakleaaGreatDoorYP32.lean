/- Printed and read: in plain words. Words: which words may be printed, in the program. strings.Builder within a struct of its own: copyCheck, WriteByte, WriteString, String (the shelf's walk, turned to this program's own numbers). Words: a text as a word, in the program. -/
import Derived.Test.YtkbcnacjaakleaaGreatDoorYP30
import Derived.Test.YtkbcnacjaakleaaGreatDoorYP31
import Derived.Test.YtkbcnacjaakleaaGreatDoorYP12
import Derived.Test.YtkbcnacjaakleaaGreatDoorYP11
import Derived.Test.YtkbcnacjaakleaaGreatDoorYP08
import Derived.Test.YtkbcnacjaakleaaGreatDoorYP00
import Derived.Test.YtkbcnacjaakleaaGreatDoorYShelf
import Derived.Lib.Builder
import Derived.Lib.AppendStr
import Derived.Lib.UnsafeStr
import Derived.Laws.Externs
import Derived.Test.YtkbcnacjaakleaaGreatDoorYP10
set_option maxRecDepth 100000
set_option maxHeartbeats 32000000
set_option linter.unusedVariables false
set_option linter.unusedSimpArgs false
namespace Go.Proofs.YtkbcnacjaakleaaGreatDoor

theorem phi_len (z : Wz) : Phi z z.ws.length ≤ 16 * z.ws.length + 8 * (z.ws.map fun w => (toldP w).length).sum := by
 unfold Phi
 rw [List.take_length]
 generalize z.ws = l
 induction l with
 | nil => simp
 | cons x l ih => simp only [List.map_cons, List.sum_cons, List.length_cons]; omega
theorem join_ge : ∀ l : List Wd, l.all mayP = true → l.length + (l.map fun w => (toldP w).length).sum ≤ (joinP l).length + 1 ∧ l.length ≤ (joinP l).length
 | [], _ => by simp [joinP]
 | [w], h => by
  have := told_pos (w := w) (by simpa using h)
  simp [joinP]; omega
 | w :: v :: l, h => by
  simp only [List.all_cons, Bool.and_eq_true] at h
  have ih := join_ge (v :: l) (by simp only [List.all_cons, Bool.and_eq_true]; exact h.2)
  have := told_pos h.1
  simp only [joinP, List.length_append, List.length_cons, List.map_cons, List.sum_cons] at ih ⊢
  omega
theorem size_mem : ∀ (l : List ByteArray), ∀ s ∈ l, s.size ≤ (l.map ByteArray.size).sum
 | [], s, hs => by simp at hs
 | y :: l, s, hs => by
  simp only [List.map_cons, List.sum_cons]
  rcases List.mem_cons.1 hs with rfl | hs
  ·omega
  ·have := size_mem l s hs; omega
theorem cnt_pos (x : Nd) : 1 ≤ cntN x := by cases x; simp only [cntN]; omega
theorem len_cnt : ∀ l : List Nd, l.length ≤ cntL l
 | [] => by simp
 | y :: l => by
  have := cnt_pos y
  have := len_cnt l
  simp only [cntL, List.length_cons]; omega
mutual
theorem kn_sz : ∀ (x : Nd), KnN x → txN x ≤ 140737488355328 → cntN x ≤ 140737488355328 → SzN x
 | .mk k nm tx n ns kids, hk, ht, hc => by
  simp only [KnN] at hk
  simp only [txN] at ht
  simp only [cntN] at hc
  have h1 := kn_szL kids hk.2 (by omega) (by omega)
  have h2 := len_cnt kids
  simp only [SzN]
  exact ⟨⟨⟨by omega, by omega⟩, ⟨by omega, by omega⟩, by omega, by omega, by omega, fun s hs => by have := size_mem ns s hs; omega, by omega⟩, h1⟩
theorem kn_szL : ∀ (l : List Nd), KnL l → txL l ≤ 140737488355328 → cntL l ≤ 140737488355328 → SzL l
 | [], _, _, _ => by simp only [SzL]
 | x :: l, hk, ht, hc => by
  simp only [KnL] at hk
  simp only [txL] at ht
  simp only [cntL] at hc
  simp only [SzL]
  exact ⟨kn_sz x hk.1 (by omega) (by omega), kn_szL l hk.2 (by omega) (by omega)⟩
end
theorem lex_phi {l : List UInt8} {ws : List Wd} (h : lexS l = .ok ws) (long : Int) : (∀ w ∈ ws, 0 ≤ w.n ∧ w.n ≤ 9223372036854775807) ∧ Phi ⟨ws, long⟩ ws.length ≤ 512 * l.length + 8 ∧ ws.length ≤ 21 * l.length := by
 obtain ⟨h1, h2, h3⟩ := lexS_may h
 obtain ⟨h4, h5⟩ := join_ge ws h1
 have h6 := phi_len ⟨ws, long⟩
 simp only at h6
 refine ⟨fun w hw => ⟨?_, h2 w hw⟩, by omega, by omega⟩
 have := List.all_eq_true.1 h1 w hw
 unfold mayP at this
 split at this
 ·simp only [Bool.and_eq_true, decide_eq_true_eq] at this; omega
 split at this
 ·simp only [Bool.and_eq_true, decide_eq_true_eq] at this; omega
 split at this
 ·simp only [Bool.and_eq_true, decide_eq_true_eq] at this; omega
 split at this
 ·simp only [decide_eq_true_eq] at this; omega
 split at this
 ·simp only [Bool.and_eq_true, decide_eq_true_eq] at this; omega
 ·cases this
theorem tree_sz {l : List UInt8} {ws : List Wd} (hl : l.length ≤ 1048576) (h : lexS l = .ok ws) {long : Int} {x : Nd} (hx : treeR ⟨ws, long⟩ = .ok x) : SzN x ∧ wtN x ≤ 512 * l.length + 9 := by
 obtain ⟨h1, h2, _⟩ := lex_phi h long
 obtain ⟨h3, h4⟩ := tree_phi (z := ⟨ws, long⟩) h1 hx
 simp only at h3
 have h5 : wtN x = tlen (tellN x) + txN x + cntN x := rfl
 exact ⟨kn_sz x h4 (by omega) (by omega), by omega⟩
end Go.Proofs.YtkbcnacjaakleaaGreatDoor
namespace Go.Proofs.YtkbcnacjaakleaaGreatDoor
open Go.RowKit

end Go.Proofs.YtkbcnacjaakleaaGreatDoor
namespace Go.Proofs.YtkbcnacjaakleaaGreatDoor
open Go.Shelf Go.RowKit

abbrev BldAt (B b : Nat) (p : Value) (l : List UInt8) (w : World) : Prop := Lib.BuilderAt 230 5 B b p (Lib.byteCells l) w
def BldIs (B b : Nat) (l : List UInt8) (w : World) : Prop := ∃ p, (p = .pointer none ∨ p = .pointer (some ⟨b, 0, none⟩)) ∧ BldAt B b p l w
end Go.Proofs.YtkbcnacjaakleaaGreatDoor
namespace Go.Proofs.YtkbcnacjaakleaaGreatDoor
open Go.RowKit

theorem BldIs.ext {B b : Nat} {l : List UInt8} {w w' : World} (h : BldIs B b l w) (he : Ext w w') : BldIs B b l w' := by
 obtain ⟨p, hp, hB, v, hbk, hown, hne⟩ := h
 refine ⟨p, hp, hB, v, ?_, own_ext hown he, hne⟩
 have hlt : b < w.heap.size := by
  rcases Nat.lt_or_ge b w.heap.size with h' | h'
  ·exact h'
  ·simp [Array.getElem?_eq_none h'] at hbk
 rw [he.block b hlt]
 exact hbk
end Go.Proofs.YtkbcnacjaakleaaGreatDoor
