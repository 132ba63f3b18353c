/- Small trees: both Checks say the same. The document's Count; how many bytes a tree has, as the statements count. -/
import Derived.Test.YtkbcnacjaakleaaGreatDoorYP01
import Derived.Test.YtkbcnacjaakleaaGreatDoorYP02
set_option maxRecDepth 100000
set_option maxHeartbeats 32000000
set_option linter.unusedVariables false
set_option linter.unusedSimpArgs false
namespace Go.Proofs.YtkbcnacjaakleaaGreatDoor

structure Small (x : Nd) (most : Nat) : Prop where
 cnt : cntN x ≤ most
 tx : ∃ m : Int, (txN x : Int) + m * 18446744073709551616 ≤ 3000 ∧ -9223372036854775808 ≤ (txN x : Int) + m * 18446744073709551616
open Go.RowKit

theorem TxtsAt.elem {ok : Nat → Prop} {w : World} {q : Option Addr} {n c : Nat} {l : List ByteArray} (h : TxtsAt ok w (.slice q n c) l) {j : Nat} (hj : j < l.length) : ∃ b o, q = some ⟨b, o, none⟩ ∧ w.cell? ⟨b, o + j, none⟩ = some (.string l[j]) := by
 obtain ⟨q', c', e, hx⟩ := h
 injection e with e1 _ _
 obtain ⟨b, o, e2, _, _, hc⟩ := hx (by omega)
 exact ⟨b, o, e1.trans e2, hc j hj⟩
end Go.Proofs.YtkbcnacjaakleaaGreatDoor
