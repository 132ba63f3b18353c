/- Rows of values among the arguments: none is empty. -/
import Derived.Test.YtfagldjhibdfhaaGreatDoorYE4
namespace Go.Proofs.YtfagldjhibdfhaaGreatDoor
open Go.ChangeShapes Go.WideShapes Go.ChangeAt Go.RowKit Go.Joins Go.Deep
set_option linter.unusedVariables false
set_option linter.unusedSimpArgs false
theorem vals_nil {H : Type} {enc : TypeId × Value → H} {w : World} {d : DataW H} {p : List MemPlace} {q : Option Addr} {c : Nat} {l : List Vl} (h : DataW.Trod enc Tryz.prog w 0 (fun _ => true) true 35 (.slice q l.length c) d p) : q = none → c = 0 ∧ l = [] := by
 rintro rfl
 obtain ⟨fuel, hf⟩ := h
 simp only [Value.cells] at hf
 rcases open_slice Tryz.underlying35 hf with ⟨e, _⟩ | ⟨a, len, cap, m, n', D, Pl, e, _⟩
 ·injection e with e1 e2
  injection e1 with e1 e3 e4
  exact ⟨e4, List.eq_nil_of_length_eq_zero e3⟩
 ·injection e with e1 e2
  injection e1 with e1
  cases e1
end Go.Proofs.YtfagldjhibdfhaaGreatDoor
