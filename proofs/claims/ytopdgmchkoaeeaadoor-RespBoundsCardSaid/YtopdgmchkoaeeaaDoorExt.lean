/- A drawn region whose callees make memory: one walk, in the text's order. -/
import Derived.Test.YtopdgmchkoaeeaaDoorBase
namespace Go.Proofs.YtopdgmchkoaeeaaDoor
open Go.RowKit

theorem ext_yes {P : Program} {ops : Array Oper} {w : World} {K : Act → Prop} {a : Act} {o : Oper} {v : Value} (hw : Region.wanted o (yielded ops a.tmps) = true)
    (h1 : ∀ w', Ext w w' → o.quietAt P a (fun x => Ext w x) w' v) (h2 : K (a.put o.dst v)) : if Region.wanted o (yielded ops a.tmps) then o.quiet P a (fun x => Ext w x) K else K (a.put o.dst undef) := by
  rw [if_pos hw]; exact ⟨v, h1, h2⟩
theorem ext_no {P : Program} {ops : Array Oper} {w : World} {K : Act → Prop} {a : Act} {o : Oper} (hw : Region.wanted o (yielded ops a.tmps) = false)
    (h2 : K (a.put o.dst undef)) : if Region.wanted o (yielded ops a.tmps) then o.quiet P a (fun x => Ext w x) K else K (a.put o.dst undef) := by
  rw [if_neg (by rw [hw]; exact Bool.false_ne_true)]; exact h2
end Go.Proofs.YtopdgmchkoaeeaaDoor
