/- The document's kids, kind by kind. -/
import Derived.Test.YtkbcnacjaakleaaGreatDoorYP04
set_option maxRecDepth 100000
set_option maxHeartbeats 32000000
set_option linter.unusedVariables false
set_option linter.unusedSimpArgs false
namespace Go.Proofs.YtkbcnacjaakleaaGreatDoor
open Go.RowKit

theorem KidsAt.take {ok : Nat → Prop} {w : World} : ∀ {d : Nat} {q : Option Addr} {n c : Nat} {l : List Nd}, KidsAt ok w d (.slice q n c) l → ∀ j, j ≤ l.length → KidsAt ok w d (.slice q j c) (l.take j)
 | 0, q, n, c, l, ⟨h0, _⟩, j, hj => by
  subst h0
  obtain rfl : j = 0 := by simpa using hj
  exact ⟨rfl, q, c, rfl⟩
 | d + 1, q, n, c, l, ⟨q', c', e, hq⟩, j, hj => by
  injection e with e1 e2 e3
  subst e1 e2 e3
  refine ⟨q, c, by rw [List.length_take, Nat.min_eq_left hj], fun h0 => ?_⟩
  rw [List.length_take, Nat.min_eq_left hj] at h0
  obtain ⟨b, o, e4, hb, hcp, hx⟩ := hq (by omega)
  refine ⟨b, o, e4, hb, by rw [List.length_take, Nat.min_eq_left hj]; omega, fun i hi => ?_⟩
  rw [List.length_take, Nat.min_eq_left hj] at hi
  rw [List.getElem_take]
  exact hx i (by omega)
theorem KidsAt.cap {ok : Nat → Prop} {w : World} : ∀ {d : Nat} {q : Option Addr} {n c : Nat} {l : List Nd}, KidsAt ok w d (.slice q n c) l → 0 < l.length → l.length ≤ c
 | 0, q, n, c, l, ⟨h0, _⟩, h => by subst h0; simp at h
 | d + 1, q, n, c, l, ⟨q', c', e, hq⟩, h => by
  injection e with e1 e2 e3
  subst e3
  obtain ⟨_, _, _, _, hcp, _⟩ := hq h
  exact hcp
end Go.Proofs.YtkbcnacjaakleaaGreatDoor
