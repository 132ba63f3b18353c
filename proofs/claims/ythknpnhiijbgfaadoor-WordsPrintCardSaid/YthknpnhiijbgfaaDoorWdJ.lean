/- Words: the signs, in the program. -/
import Derived.Test.YthknpnhiijbgfaaDoorWdI
import Derived.Test.YthknpnhiijbgfaaDoorWdE
import Derived.Test.YthknpnhiijbgfaaDoorRow
namespace Go.Proofs.YthknpnhiijbgfaaDoor
open Go.RowKit
set_option linter.unusedVariables false
set_option linter.unusedSimpArgs false

def signW : List ByteArray := signL.map fun x => ⟨x.toArray⟩
def signV : Array Value := (signW.map Value.string).toArray
def signZ : Array Value := Array.replicate 24 (.string ⟨#[]⟩)
theorem signV_size : signV.size = 24 := rfl
theorem zeroS : (Tryd.prog.info? 80).map (fun i => (i.zero, i.size)) = some (some (.agg signZ), 24) := by kernel_rfl
set_option maxRecDepth 100000 in
set_option maxHeartbeats 1000000 in
theorem signs_any (w : World) : Calls Tryd.prog 53 #[] w fun e w' => e = .returned (.agg signV) ∧ Ext w w' := by
  obtain ⟨hz, hs⟩ := zero_of_info zeroS
  have HS := Lib.hid hs
  have hu := Tryd.underlying80
  have HU := Lib.hid hu
  clear hs hu
  go_enter Tryd.func53, Tryd.ntmps53
  go_wp2_with (first
    | (refine wpList_build_to rfl 80 _ rfl _ rfl (.agg signV) (by kernel_rfl) ?_)
    | (refine wpList_store_row rfl 80 _ _ rfl w.heap.size rfl signV signZ rfl _ (new_at rfl _) (HS.out.trans (by rw [signV_size])) (by kernel_rfl) (by kernel_rfl) ?_))
  exact bodyPost_ret (v := .agg signV) (results_cell_row rfl _ _ w.heap.size _ signV _ _ rfl (Blk.setRow (new_at rfl _) _) HU.out rfl (HS.out.trans (by rw [signV_size]))) rfl ⟨rfl, ((Ext.refl w).alloc _).setRow (Nat.le_refl _) _⟩
end Go.Proofs.YthknpnhiijbgfaaDoor
