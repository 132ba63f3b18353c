/- The document's may and Check. The law SyntaxCheck, walked. What the rows of this seat list, and what they ask behind a law that makes only new blocks. Trees among the arguments of a law: opened. -/
import Derived.Test.YtkbcnacjaakleaaGreatDoorYScJ
import Derived.Test.YtkbcnacjaakleaaGreatDoorYP34
import Derived.Test.YtkbcnacjaakleaaGreatDoorYSpJ
import Derived.Test.YtkbcnacjaakleaaGreatDoorYP04
import Derived.BigQuiet
import Derived.Test.YtkbcnacjaakleaaGreatDoorCards
import Derived.Test.YtkbcnacjaakleaaGreatDoorTie
import Derived.Test.YtkbcnacjaakleaaGreatDoorYP10
import Derived.WalkKit
import Derived.ProofKit
import Derived.OpenShut
import Derived.Deep.DeepHandedRow
import Derived.Deep.DeepWitnessRowRef
import Derived.Deep.Slices
import Derived.Lib.LaidTab
import Derived.Lib.SmallJoins
import Derived.Stop.LaidErr
import Derived.Lay
import Derived.LaidSub
import Derived.ShutString
import Derived.Deep.Strs
import Derived.ChangeSame
import Derived.Carry
import Derived.SizedLaws
import Derived.Test.YtkbcnacjaakleaaGreatDoorYP01
set_option maxRecDepth 100000
set_option maxHeartbeats 32000000
set_option linter.unusedVariables false
set_option linter.unusedSimpArgs false
namespace Go.Proofs.YtkbcnacjaakleaaGreatDoor
open Go.RowKit
mutual
theorem preN_len : ∀ x : Nd, (preN x).length = cntN x
 | .mk k a t n ns ks => by simp only [preN, cntN, List.length_cons]; rw [preL_len ks]; omega
theorem preL_len : ∀ l : List Nd, (preL l).length = cntL l
 | [] => rfl
 | x :: l => by simp only [preL, cntL, List.length_append]; rw [preN_len x, preL_len l]
end
mutual
theorem sameN_self : ∀ x : Nd, sameN x x = true
 | .mk k a t n ns ks => by simp only [sameN]; rw [sameL_self ks, (ba_iff a a).2 rfl, (ba_iff t t).2 rfl, names_beq]; simp
theorem sameL_self : ∀ l : List Nd, sameL l l = true
 | [] => rfl
 | x :: l => by simp only [sameL]; rw [sameN_self x, sameL_self l]; rfl
end
end Go.Proofs.YtkbcnacjaakleaaGreatDoor
namespace Go.Proofs.YtkbcnacjaakleaaGreatDoor
open Go.ChangeShapes Go.WideShapes Go.ChangeAt Go.RowKit Go.Joins Go.Deep

abbrev laid9 : List (String × DataW Unit) := [("math/bits.deBruijn32tab", Rows.laid_math_bits_deBruijn32tab), ("math/bits.deBruijn64tab", Rows.laid_math_bits_deBruijn64tab), ("internal/strconv.uint64pow10", Rows.laid_internal_strconv_uint64pow10), ("unicode/utf8.acceptRanges", Rows.laid_unicode_utf8_acceptRanges), ("strconv.ErrRange", Rows.laid_strconv_ErrRange), ("strconv.ErrSyntax", Rows.laid_strconv_ErrSyntax), ("unicode.White_Space", Rows.laid_unicode_White_Space), ("strings.asciiSpace", Rows.laid_strings_asciiSpace), ("unicode/utf8.first", Rows.laid_unicode_utf8_first)]
theorem own : ownKnob Tryz.prog.godebug = none := by kernel_rfl
theorem starE : "*" ++ "errors.errorString" = "*errors.errorString" := by decide
theorem rowE (u : TypeId) (h : Tryz.prog.typeName? 3 u = some "*errors.errorString") : u = 322 :=
 typeName_ptr_named (nm := "errors.errorString") (by rw [starE]; kernel_rfl) (by kernel_rfl) (by decide) u (by rw [starE]; exact h)
theorem gSyn : Tryz.prog.globalNamed "strconv.ErrSyntax" = some 6 := by kernel_rfl
theorem gRng : Tryz.prog.globalNamed "strconv.ErrRange" = some 7 := by kernel_rfl
theorem asc_datum : (Rows.laid_strings_asciiSpace : DataW Unit) = Lib.tabData .u8 Lib.asciiSpaceTab := by kernel_rfl
theorem laid_of {W : World} (h : laidMetH Tryz.prog laid9 W) : Laid W := by
 refine ⟨?_, ?_, ?_, ?_⟩
 ·have h1 := laidMetH.filter (fun x => x.1 == "strings.asciiSpace") h
  have h2 : laidMetH Tryz.prog [("strings.asciiSpace", Rows.laid_strings_asciiSpace)] W := h1
  rw [asc_datum] at h2
  exact Lib.tabIs_of_head (t := 252) (e := 5) (n := 256) (rest := []) ascG (by kernel_rfl) (by kernel_rfl) (by kernel_rfl) (by kernel_rfl) (by kernel_rfl) h2
 ·exact Lib.tabIs_of_head (t := 281) (e := 237) (n := 20) (rest := []) powG (by kernel_rfl) (by kernel_rfl) (by kernel_rfl) (by kernel_rfl) (by kernel_rfl) (laidMetH.filter (fun x => x.1 == "internal/strconv.uint64pow10") h)
 ·obtain ⟨a, s, hv, _⟩ := laid_sentinel (r := []) (text := [105, 110, 118, 97, 108, 105, 100, 32, 115, 121, 110, 116, 97, 120]) (laidMetH.filter (fun x => x.1 == "strconv.ErrSyntax") h) gSyn (by kernel_rfl) Tryz.underlying192 rowE Tryz.underlying322 Tryz.underlying324 rfl rfl Tryz.underlying9 (by kernel_rfl) (by kernel_rfl)
  exact ⟨_, _, by have h0 := World.var?_cell gSyn hv 0; simpa using h0⟩
 ·obtain ⟨a, s, hv, _⟩ := laid_sentinel (r := []) (text := [118, 97, 108, 117, 101, 32, 111, 117, 116, 32, 111, 102, 32, 114, 97, 110, 103, 101]) (laidMetH.filter (fun x => x.1 == "strconv.ErrRange") h) gRng (by kernel_rfl) Tryz.underlying192 rowE Tryz.underlying322 Tryz.underlying324 rfl rfl Tryz.underlying9 (by kernel_rfl) (by kernel_rfl)
  exact ⟨_, _, by have h0 := World.var?_cell gRng hv 0; simpa using h0⟩
theorem laid9_met (os : Os) (args : Array Value) : laidMet Tryz.prog laid9 ((World.laidAll Tryz.prog os laid9).forCall (fun _ _ => 0) ⟨#[], args, []⟩).memory :=
 laidMet_laidAll args (by kernel_rfl) (by kernel_rfl)
theorem laidOut : laidOutB Tryz.prog = true := by kernel_rfl
variable {H : Type} {enc : TypeId × Value → H}
theorem trodAll_ext {P : Program} (hl : laidOutB P = true) {W W' : World} (hb : Below W.heap.size W W') :
  ∀ {ts : List TypeId} {vs : List Value} {ds : List (DataW H)} {ps : List MemPlace}, (ts.all fun t => P.readableRec t && decide (t < P.types.size)) = true → DataW.TrodAll enc P W 0 (fun _ => true) true ts vs ds ps → (∀ x ∈ ps, x.block < W.heap.size) → DataW.TrodAll enc P W' 0 (fun b => decide (b < W.heap.size)) true ts vs ds ps
 | [], [], [], _, _, h, _ => h
 | t :: ts, v :: vs, d :: ds, ps, hr, h, hlt => by
  obtain ⟨p, q, h1, h2, e⟩ := h
  simp only [List.all_cons, Bool.and_eq_true, decide_eq_true_eq] at hr
  subst e
  exact ⟨p, q, Below.trod hl hr.1.1 hr.1.2 h1 hb (fun x hx => hlt x (by simp [hx])), trodAll_ext hl hb (by simpa using hr.2) h2 (fun x hx => hlt x (by simp [hx])), rfl⟩
 | [], _ :: _, _, _, _, h, _ => h.elim
 | [], [], _ :: _, _, _, h, _ => h.elim
 | _ :: _, [], _, _, _, h, _ => h.elim
 | _ :: _, _ :: _, [], _, _, h, _ => h.elim
theorem post_grown {P : Program} {f : Func} {s : ChangeSpec} {apart fresh handsOn : Bool} {W W' : World} {args : Array Value} {v : Value} {ds gs : List (DataW H)} {before : List MemPlace}
  (hl : laidOutB P = true) (hr : (f.params.toList.all fun t => P.readableRec t && decide (t < P.types.size)) = true) (hvar : s.vars = [])
  (hW : DataW.Whole enc P f.params.toList s.vars apart W args.toList ds gs before)
  (hres : ∀ (b : Nat) (sp : Nat → Bool) (hd : Bool), DataW.TrodAll enc P W' b sp hd f.resultTypes.toList (v.resultList f.resultTypes.size) (s.fn H (ds ++ gs)).results [])
  (ha : (s.fn H (ds ++ gs)).args = ds) (hv : (s.fn H (ds ++ gs)).vars = [])
  (he : Ext W W') :
  s.post enc P f apart fresh handsOn false W args v W' := by
 have hlt := hW.lt
 have hW' := hW
 obtain ⟨p, q, hA, hV, rfl, hfz, hnd⟩ := hW
 refine ⟨ds, gs, _, [], p, [], hW', hres _ _ _, ?_, ?_, Below.frame he _, fun h => by cases h⟩
 ·rw [ha]
  exact trodAll_ext hl he hr hA (fun x hx => hlt x (by simp [hx]))
 ·rw [hvar, hv]; exact rfl
end Go.Proofs.YtkbcnacjaakleaaGreatDoor
namespace Go.Proofs.YtkbcnacjaakleaaGreatDoor
open Go.ChangeShapes Go.WideShapes Go.ChangeAt Go.RowKit Go.Joins Go.Deep

variable {H : Type} {enc : TypeId × Value → H} {w : World} {base : Nat} {sp : Nat → Bool} {hd : Bool}
instance : Inhabited Nd := ⟨.mk 0 ⟨#[]⟩ ⟨#[]⟩ 0 [] []⟩
abbrev Wb (l : List Nat) : Prop := ∀ m ∈ l, m ≤ 140737488355328
end Go.Proofs.YtkbcnacjaakleaaGreatDoor
