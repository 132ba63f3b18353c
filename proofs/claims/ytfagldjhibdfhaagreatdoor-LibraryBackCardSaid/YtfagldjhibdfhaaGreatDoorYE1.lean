/- The document's remove. The document's keys. -/
import Derived.Test.YtfagldjhibdfhaaGreatDoorYD9
import Derived.Deep.DeepCutAuto
import Derived.Deep.CutBlock
import Derived.Test.YtfagldjhibdfhaaGreatDoorYD6
namespace Go.Proofs.YtfagldjhibdfhaaGreatDoor
open Go.RowKit
set_option linter.unusedVariables false
set_option linter.unusedSimpArgs false

end Go.Proofs.YtfagldjhibdfhaaGreatDoor
namespace Go.Proofs.YtfagldjhibdfhaaGreatDoor
open Go.RowKit
set_option linter.unusedVariables false
set_option linter.unusedSimpArgs false

structure RKyI (w wr : World) (g : Nat) (tv tv' : Value) (B N : Nat) (t : Vl) (ks : List Vl) (bv : Nat) (vr : Value) (Hc : Hp) : Prop where
 rs : RS w g tv wr tv' Hc
 len : Hc.tabs.length = N
 box : Blk wr bv 26 #[.int .i64 t.k, .int .i64 t.n, .string t.s]
 res : Blk wr B 26 zcells
 row : RowAt wr vr ks
 n1 : ¬ RFoot g tv' bv
 n2 : ¬ RFoot g tv' B
 n3 : ∀ k, vr.ownBlock = some k → ¬ RFoot g tv' k
theorem RKyI.set {w wr Z w' : World} {g : Nat} {tv tv' : Value} {B N : Nat} {t k x : Vl} {ks : List Vl} {bv : Nat} {vr : Value} {Hc : Hp} (h : RKyI w wr g tv tv' B N t ks bv vr Hc)
  (hZ : Ext wr Z) (hh : RHeapIn w' g tv' (setH Hc t k x)) (ht : Touch (RFoot g tv') Z w') : RKyI w w' g tv tv' B N t ks bv vr (setH Hc t k x) := by
 have ht2 := Touch.pre hZ ht
 exact ⟨h.rs.trans (.of_touch hh ht2), by rw [setH_len]; exact h.len, (ht2.block _ h.box.lt h.n1).trans h.box, (ht2.block _ h.res.lt h.n2).trans h.res, h.row.of_heap fun k hk => ht2.block k (h.row.lt k hk).1 (h.n3 k hk), h.n1, h.n2, h.n3⟩
end Go.Proofs.YtfagldjhibdfhaaGreatDoor
