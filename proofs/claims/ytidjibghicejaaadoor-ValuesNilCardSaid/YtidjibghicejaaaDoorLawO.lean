/- Operators on a heap of no cells leave it as it was. -/
import Derived.Test.YtidjibghicejaaaDoorLawE
namespace Go.Proofs.YtidjibghicejaaaDoor
open Go.RowKit
set_option linter.unusedVariables false

theorem Only.ext_same {g : Nat} {w w' : World} {t : TypeId} {cs : Array Value} (h : Only g w w') (hb : Blk w g t cs) (hb' : Blk w' g t cs) : Ext w w' :=
  ⟨h.os, h.tape, h.output, h.size, fun k hk => by
    by_cases e : k = g
    · subst e; exact hb'.trans hb.symm
    · exact h.block k hk (fun he => e (Option.some.inj he))⟩
theorem opc (o : ByteArray) (a b x : Vl) (s : ByteArray) (hz : opZ o 0 0 a b = (x, s, 0)) (fa : Fits a) (fb : Fits b) (g : Nat) (W : World) (h : HB W g (.slice none 0 0) 0 0) (ht : Pow W) :
    Calls Tryd.prog 11 #[.pointer (some ⟨g, 0, none⟩), .string o, a.v, b.v] W fun e w' => e = .returned (.tuple #[x.v, .string s]) ∧ Ext W w' := by
  have c := op_all g (.slice none 0 0) 0 0 o a b W h (by omega) (by omega) (by omega) ht fa fb
  rw [hz] at c
  refine c.mono ?_
  rintro e w' ⟨rfl, ho, hb⟩
  exact ⟨rfl, ho.ext_same h hb⟩
end Go.Proofs.YtidjibghicejaaaDoor
