/- The rows of the chapter: works. What the rows of chapter 15 list, and what they ask behind a law that makes only new blocks. -/
import Derived.Test.YtfagldjhibdfhaaGreatDoorYB5
import Derived.Test.YtfagldjhibdfhaaGreatDoorCards
import Derived.Test.YtfagldjhibdfhaaGreatDoorTie
import Derived.WalkKit
import Derived.ProofKit
import Derived.OpenShut
import Derived.Deep.DeepHandedRow
import Derived.Deep.DeepWitnessRowRef
import Derived.Deep.Slices
import Derived.Lib.LaidTab
import Derived.Lib.SmallJoins
import Derived.Stop.LaidErr
import Derived.Lay
import Derived.LaidSub
import Derived.ShutString
import Derived.Deep.Strs
import Derived.ChangeSame
import Derived.Carry
import Derived.SizedLaws
namespace Go.Proofs.YtfagldjhibdfhaaGreatDoor
open Go.RowKit
set_option linter.unusedVariables false
set_option linter.unusedSimpArgs false

set_option maxRecDepth 100000 in
set_option maxHeartbeats 4000000 in
theorem works_any (w : World) (hL : LLaid w) : Calls Tryz.prog 20 #[] w fun e w' => e = .returned (.bool true) ∧ Ext w w' := by
  have HL := Lib.hid hL
  clear hL
  go_enter Tryz.func20, Tryz.ntmps20
  go_wp2_with fail
  refine (nh_new 100 (Ext.refl w) (by decide) (by decide)).mono ?_
  rintro e w1 ⟨g, rfl, n1⟩
  have N : Hid (NH w w1 g wH0 []) := Lib.hid n1
  clear n1
  go_wp2_with fail
  refine (text_any _ _).mono ?_
  rintro e w2 ⟨rfl, e2⟩
  replace N := Lib.hid (N.out.ext' e2)
  clear e2
  go_wp2_with fail
  refine (int_any _ _).mono ?_
  rintro e w3 ⟨rfl, e3⟩
  replace N := Lib.hid (N.out.ext' e3)
  clear e3
  go_wp2_with fail
  refine (int_any _ _).mono ?_
  rintro e w4 ⟨rfl, e4⟩
  replace N := Lib.hid (N.out.ext' e4)
  clear e4
  go_wp2_with fail
  refine (wk_sub (N.out.new (l := lSub) _ rfl) (List.mem_cons_self ..) HL.out _).mono ?_
  rintro e w5 ⟨rfl, n5⟩
  replace N := Lib.hid (n5.sub (List.sublist_cons_self _ _))
  clear n5
  go_wp2_with fail
  replace N := Lib.hid (N.out.new (l := [⟨3, 0, ⟨#[98, 99, 100]⟩⟩]) #[.int .i64 3, .int .i64 0, .string ⟨#[98, 99, 100]⟩] rfl)
  refine (text_any _ _).mono ?_
  rintro e w6 ⟨rfl, e6⟩
  replace N := Lib.hid (N.out.ext' e6)
  clear e6
  go_wp2_with fail
  refine (text_any _ _).mono ?_
  rintro e w7 ⟨rfl, e7⟩
  replace N := Lib.hid (N.out.ext' e7)
  clear e7
  go_wp2_with fail
  refine (wk_find (N.out.new (l := lFind) _ rfl) (List.mem_cons_self ..) HL.out _).mono ?_
  rintro e w8 ⟨rfl, n8⟩
  replace N := Lib.hid (n8.sub (List.sublist_cons_self _ _))
  clear n8
  go_wp2_with fail
  replace N := Lib.hid (N.out.new (l := [⟨2, 3, ⟨#[]⟩⟩]) #[.int .i64 2, .int .i64 3, .string ⟨#[]⟩] rfl)
  refine (int_any _ _).mono ?_
  rintro e w9 ⟨rfl, e9⟩
  replace N := Lib.hid (N.out.ext' e9)
  clear e9
  go_wp2_with fail
  refine (wk_char (N.out.new (l := lChar) _ rfl) (List.mem_cons_self ..) HL.out _).mono ?_
  rintro e w10 ⟨rfl, n10⟩
  replace N := Lib.hid (n10.sub (List.sublist_cons_self _ _))
  clear n10
  go_wp2_with fail
  replace N := Lib.hid (N.out.new (l := [⟨0, 0, ⟨#[]⟩⟩]) #[.int .i64 0, .int .i64 0, .string ⟨#[]⟩] rfl)
  refine (wk_nosuch _ _).mono ?_
  rintro e w12 ⟨rfl, e12⟩
  replace N := Lib.hid (N.out.ext' e12)
  clear e12
  go_wp2_with fail
  replace N := Lib.hid (N.out.new (l := [⟨0, 0, ⟨#[]⟩⟩]) #[.int .i64 0, .int .i64 0, .string ⟨#[]⟩] rfl)
  refine (wk_table N.out).mono ?_
  rintro e w13 ⟨rfl, n13⟩
  replace N := Lib.hid n13
  clear n13
  go_wp2_with fail
  replace N := Lib.hid (N.out.new (l := [⟨4, 0, ⟨#[]⟩⟩]) #[.int .i64 4, .int .i64 0, .string ⟨#[]⟩] rfl)
  generalize w13.alloc (.cells #[.int .i64 4, .int .i64 0, .string ⟨#[]⟩] 26) = wa at N ⊢
  obtain ⟨k14, h14⟩ : ∃ k, w13.heap.size = k := ⟨_, rfl⟩
  obtain ⟨k11, h11⟩ : ∃ k, w12.heap.size = k := ⟨_, rfl⟩
  obtain ⟨k8, h8⟩ : ∃ k, w10.heap.size = k := ⟨_, rfl⟩
  obtain ⟨k5, h5⟩ : ∃ k, w8.heap.size = k := ⟨_, rfl⟩
  obtain ⟨k2, h2⟩ : ∃ k, w5.heap.size = k := ⟨_, rfl⟩
  rw [h14, h11, h8, h5, h2] at N
  rw [h14, h11, h8, h5, h2]
  clear h14 h11 h8 h5 h2
  replace N : Hid (NH w wa g wH2 [(k14, [⟨4, 0, ⟨#[]⟩⟩]), (k5, [⟨2, 3, ⟨#[]⟩⟩]), (k2, [⟨3, 0, ⟨#[98, 99, 100]⟩⟩])]) := Lib.hid (N.out.sub (by
    refine List.Sublist.cons_cons _ (List.Sublist.cons _ (List.Sublist.cons _ (List.Sublist.cons_cons _ (List.Sublist.cons_cons _ (List.Sublist.refl _))))) ))
  obtain ⟨c0, c1, c2, _⟩ := N.out.three (k := k14) (x := ⟨4, 0, ⟨#[]⟩⟩) (by simp)
  have hb : k14 < wa.heap.size := N.out.lt (p := (k14, [⟨4, 0, ⟨#[]⟩⟩])) (by simp)
  have HE := Lib.hid (Ext.refl wa)
  go_region_held3 (fun w' => w'.cell? ⟨k14, 0, none⟩ = some (.int .i64 4) ∧ w'.cell? ⟨k14, 1, none⟩ = some (.int .i64 0) ∧ w'.cell? ⟨k14, 2, none⟩ = some (.string ⟨#[]⟩)) (go_keep)
    (first
      | (go_at_call 17; refine (int_any _ _).mono ?_; rintro e wq ⟨rfl, eq⟩; have HE := Lib.hid (show Ext wa wq from by first | exact HE.out.trans eq | exact HE.out.drew.trans eq); have x0 := (HE.out.cells.1 _ _ hb).trans c0; have x1 := (HE.out.cells.1 _ _ hb).trans c1; have x2 := (HE.out.cells.1 _ _ hb).trans c2; clear eq)
      | (go_at_call 19; refine (wk_set (N.out.ext' HE.out)).mono ?_; rintro e wq ⟨rfl, nq⟩; have M := Lib.hid nq; obtain ⟨d0, d1, d2, _⟩ := nq.three (k := k14) (x := ⟨4, 0, ⟨#[]⟩⟩) (by simp); clear nq))
  all_goals go_wp2_with fail
  go_upto_region 8 with (fail)
  go_cut [17] (fun s17 wx => s17 = .string ⟨#[]⟩ ∧ Hid (NH w wx g wH4 [(k14, [⟨4, 0, ⟨#[]⟩⟩]), (k5, [⟨2, 3, ⟨#[]⟩⟩]), (k2, [⟨3, 0, ⟨#[98, 99, 100]⟩⟩])]))
  case first =>
    obtain ⟨c0, c1, c2, _⟩ := M.out.three (k := k14) (x := ⟨4, 0, ⟨#[]⟩⟩) (by simp)
    have hb : k14 < wq.heap.size := M.out.lt (p := (k14, [⟨4, 0, ⟨#[]⟩⟩])) (by simp)
    have hne : ¬ wq.heap.size = k14 := by omega
    have hne2 : ¬ k14 = wq.heap.size := by omega
    go_region_held3 (fun w' => w'.cell? ⟨k14, 0, none⟩ = some (.int .i64 4) ∧ w'.cell? ⟨k14, 1, none⟩ = some (.int .i64 0) ∧ w'.cell? ⟨k14, 2, none⟩ = some (.string ⟨#[]⟩)) (go_keep)
      (first
        | (go_at_call 17; refine (int_any _ _).mono ?_; rintro e w3 ⟨rfl, eq⟩; (try (have hq : Ext (World.drew wq) w3 := (by with_reducible exact eq); have Aw3 := Lib.hid (M.out.ext' ((Ext.refl wq).drew.trans hq)); have EEw3 := Lib.hid ((Ext.refl wq).drew.trans hq); clear hq)); (try (have hq : Ext (World.alloc (World.drew wq) (.cells #[.int .i64 0, .int .i64 0, .string ⟨#[]⟩] 26)) w3 := (by with_reducible exact eq); have Bw3 := Lib.hid (((M.out.ext' (Ext.refl wq).drew).new (l := [Vl.zero]) #[.int .i64 0, .int .i64 0, .string ⟨#[]⟩] rfl).ext' hq); have EEw3 := Lib.hid (((Ext.refl wq).drew.alloc (.cells #[.int .i64 0, .int .i64 0, .string ⟨#[]⟩] 26)).trans hq); clear hq)); (try (have hq : Ext (World.drew (World.alloc wq (.cells #[.int .i64 0, .int .i64 0, .string ⟨#[]⟩] 26))) w3 := (by with_reducible exact eq); have Bw3 := Lib.hid ((((M.out.new (l := [Vl.zero]) #[.int .i64 0, .int .i64 0, .string ⟨#[]⟩] rfl).ext' (Ext.refl _).drew)).ext' hq); have EEw3 := Lib.hid (((Ext.refl wq).alloc (.cells #[.int .i64 0, .int .i64 0, .string ⟨#[]⟩] 26)).drew.trans hq); clear hq)); have x0 := (EEw3.out.cells.1 _ _ hb).trans c0; have x1 := (EEw3.out.cells.1 _ _ hb).trans c1; have x2 := (EEw3.out.cells.1 _ _ hb).trans c2; have Lw3 : k14 < w3.heap.size := Nat.lt_of_lt_of_le hb EEw3.out.le; have nnw3 : ¬ w3.heap.size = k14 := Nat.ne_of_gt Lw3; have nmw3 : ¬ k14 = w3.heap.size := Nat.ne_of_lt Lw3; have nkw3 : ¬ w3.heap.size + 1 = k14 := (by omega); have nlw3 : ¬ k14 = w3.heap.size + 1 := (by omega); clear eq)
        | (go_at_call 16; refine (text_any _ _).mono ?_; rintro e w4 ⟨rfl, eq⟩; (try (have hq : Ext w3 w4 := (by with_reducible exact eq); have EEw4 := Lib.hid (EEw3.out.trans hq); (try (have hz : Hid (NH w w3 g wH3 [(k14, [⟨4, 0, ⟨#[]⟩⟩]), (k5, [⟨2, 3, ⟨#[]⟩⟩]), (k2, [⟨3, 0, ⟨#[98, 99, 100]⟩⟩])]) := (by with_reducible assumption); have Aw4 := Lib.hid (hz.out.ext' hq); clear hz)); (try (have hz : Hid (NH w w3 g wH3 ((wq.heap.size, [Vl.zero]) :: [(k14, [⟨4, 0, ⟨#[]⟩⟩]), (k5, [⟨2, 3, ⟨#[]⟩⟩]), (k2, [⟨3, 0, ⟨#[98, 99, 100]⟩⟩])])) := (by with_reducible assumption); have Bw4 := Lib.hid (hz.out.ext' hq); clear hz)); clear hq)); (try (have hq : Ext (World.alloc w3 (.cells #[.int .i64 0, .int .i64 0, .string ⟨#[]⟩] 26)) w4 := (by with_reducible exact eq); have EEw4 := Lib.hid ((EEw3.out.alloc (.cells #[.int .i64 0, .int .i64 0, .string ⟨#[]⟩] 26)).trans hq); have hz : Hid (NH w w3 g wH3 [(k14, [⟨4, 0, ⟨#[]⟩⟩]), (k5, [⟨2, 3, ⟨#[]⟩⟩]), (k2, [⟨3, 0, ⟨#[98, 99, 100]⟩⟩])]) := (by with_reducible assumption); have Bw4 := Lib.hid ((hz.out.new (l := [Vl.zero]) #[.int .i64 0, .int .i64 0, .string ⟨#[]⟩] rfl).ext' hq); clear hz; clear hq)); have x0 := (EEw4.out.cells.1 _ _ hb).trans c0; have x1 := (EEw4.out.cells.1 _ _ hb).trans c1; have x2 := (EEw4.out.cells.1 _ _ hb).trans c2; have Lw4 : k14 < w4.heap.size := Nat.lt_of_lt_of_le hb EEw4.out.le; have nnw4 : ¬ w4.heap.size = k14 := Nat.ne_of_gt Lw4; have nmw4 : ¬ k14 = w4.heap.size := Nat.ne_of_lt Lw4; have nkw4 : ¬ w4.heap.size + 1 = k14 := (by omega); have nlw4 : ¬ k14 = w4.heap.size + 1 := (by omega); clear eq)
        | (go_at_call 15; first
            | (have hz : Hid (NH w w4 g wH3 ((wq.heap.size, [Vl.zero]) :: [(k14, [⟨4, 0, ⟨#[]⟩⟩]), (k5, [⟨2, 3, ⟨#[]⟩⟩]), (k2, [⟨3, 0, ⟨#[98, 99, 100]⟩⟩])])) := (by with_reducible assumption); have CC := wk_insert (hz.out.new (l := lInsert) #[.int .i64 4, .int .i64 0, .string ⟨#[]⟩, .int .i64 2, .int .i64 1, .string ⟨#[]⟩, .int .i64 3, .int .i64 0, .string ⟨#[120]⟩] rfl) (List.mem_cons_self ..) HL.out 3; (try simp only [size_alloc] at CC); (with_reducible refine Calls.mono CC ?_); clear CC; rintro e w9 ⟨rfl, n9⟩; obtain ⟨yy0, yy1, yy2, _⟩ := n9.three (k := k14) (x := ⟨4, 0, ⟨#[]⟩⟩) (by simp); have L9 : k14 < w9.heap.size := n9.lt (p := (k14, [⟨4, 0, ⟨#[]⟩⟩])) (by simp); have nn9 : ¬ w9.heap.size = k14 := Nat.ne_of_gt L9; have nm9 : ¬ k14 = w9.heap.size := Nat.ne_of_lt L9; have F9 := Lib.hid (n9.sub (List.sublist_cons_self _ _)); obtain ⟨zl, zv0, zv1, zv2, zf0, zf1, zf2⟩ := ZV.facts (show ZV w9 _ from (F9.out.own _ (List.mem_cons_self ..)).2); clear n9)
            | (have hz : Hid (NH w w4 g wH3 ((w3.heap.size, [Vl.zero]) :: [(k14, [⟨4, 0, ⟨#[]⟩⟩]), (k5, [⟨2, 3, ⟨#[]⟩⟩]), (k2, [⟨3, 0, ⟨#[98, 99, 100]⟩⟩])])) := (by with_reducible assumption); have CC := wk_insert (hz.out.new (l := lInsert) #[.int .i64 4, .int .i64 0, .string ⟨#[]⟩, .int .i64 2, .int .i64 1, .string ⟨#[]⟩, .int .i64 3, .int .i64 0, .string ⟨#[120]⟩] rfl) (List.mem_cons_self ..) HL.out 3; (try simp only [size_alloc] at CC); (with_reducible refine Calls.mono CC ?_); clear CC; rintro e w9 ⟨rfl, n9⟩; obtain ⟨yy0, yy1, yy2, _⟩ := n9.three (k := k14) (x := ⟨4, 0, ⟨#[]⟩⟩) (by simp); have L9 : k14 < w9.heap.size := n9.lt (p := (k14, [⟨4, 0, ⟨#[]⟩⟩])) (by simp); have nn9 : ¬ w9.heap.size = k14 := Nat.ne_of_gt L9; have nm9 : ¬ k14 = w9.heap.size := Nat.ne_of_lt L9; have F9 := Lib.hid (n9.sub (List.sublist_cons_self _ _)); obtain ⟨zl, zv0, zv1, zv2, zf0, zf1, zf2⟩ := ZV.facts (show ZV w9 _ from (F9.out.own _ (List.mem_cons_self ..)).2); clear n9)
            | (have hz : Hid (NH w w4 g wH3 [(k14, [⟨4, 0, ⟨#[]⟩⟩]), (k5, [⟨2, 3, ⟨#[]⟩⟩]), (k2, [⟨3, 0, ⟨#[98, 99, 100]⟩⟩])]) := (by with_reducible assumption); have CC := wk_insert (hz.out.new (l := lInsert) #[.int .i64 4, .int .i64 0, .string ⟨#[]⟩, .int .i64 2, .int .i64 1, .string ⟨#[]⟩, .int .i64 3, .int .i64 0, .string ⟨#[120]⟩] rfl) (List.mem_cons_self ..) HL.out 3; (try simp only [size_alloc] at CC); (with_reducible refine Calls.mono CC ?_); clear CC; rintro e w9 ⟨rfl, n9⟩; obtain ⟨yy0, yy1, yy2, _⟩ := n9.three (k := k14) (x := ⟨4, 0, ⟨#[]⟩⟩) (by simp); have L9 : k14 < w9.heap.size := n9.lt (p := (k14, [⟨4, 0, ⟨#[]⟩⟩])) (by simp); have nn9 : ¬ w9.heap.size = k14 := Nat.ne_of_gt L9; have nm9 : ¬ k14 = w9.heap.size := Nat.ne_of_lt L9; have G9 := Lib.hid (n9.sub (List.sublist_cons_self _ _)); clear n9)
            | (have hz : Hid (NH w w4 g wH3 [(k14, [⟨4, 0, ⟨#[]⟩⟩]), (k5, [⟨2, 3, ⟨#[]⟩⟩]), (k2, [⟨3, 0, ⟨#[98, 99, 100]⟩⟩])]) := (by with_reducible assumption); have CC := wk_insert ((hz.out.new (l := [Vl.zero]) #[.int .i64 0, .int .i64 0, .string ⟨#[]⟩] rfl).new (l := lInsert) #[.int .i64 4, .int .i64 0, .string ⟨#[]⟩, .int .i64 2, .int .i64 1, .string ⟨#[]⟩, .int .i64 3, .int .i64 0, .string ⟨#[120]⟩] rfl) (List.mem_cons_self ..) HL.out 3; (try simp only [size_alloc] at CC); (with_reducible refine Calls.mono CC ?_); clear CC; rintro e w9 ⟨rfl, n9⟩; obtain ⟨yy0, yy1, yy2, _⟩ := n9.three (k := k14) (x := ⟨4, 0, ⟨#[]⟩⟩) (by simp); have L9 : k14 < w9.heap.size := n9.lt (p := (k14, [⟨4, 0, ⟨#[]⟩⟩])) (by simp); have nn9 : ¬ w9.heap.size = k14 := Nat.ne_of_gt L9; have nm9 : ¬ k14 = w9.heap.size := Nat.ne_of_lt L9; have F9 := Lib.hid (n9.sub (List.sublist_cons_self _ _)); obtain ⟨zl, zv0, zv1, zv2, zf0, zf1, zf2⟩ := ZV.facts (show ZV w9 _ from (F9.out.own _ (List.mem_cons_self ..)).2); clear n9)
            | (have hz : Hid (NH w w4 g wH3 [(k14, [⟨4, 0, ⟨#[]⟩⟩]), (k5, [⟨2, 3, ⟨#[]⟩⟩]), (k2, [⟨3, 0, ⟨#[98, 99, 100]⟩⟩])]) := (by with_reducible assumption); have CC := wk_insert ((hz.out.new (l := lInsert) #[.int .i64 4, .int .i64 0, .string ⟨#[]⟩, .int .i64 2, .int .i64 1, .string ⟨#[]⟩, .int .i64 3, .int .i64 0, .string ⟨#[120]⟩] rfl).new (l := [Vl.zero]) #[.int .i64 0, .int .i64 0, .string ⟨#[]⟩] rfl) (List.mem_cons_of_mem _ (List.mem_cons_self ..)) HL.out 3; (try simp only [size_alloc] at CC); (with_reducible refine Calls.mono CC ?_); clear CC; rintro e w9 ⟨rfl, n9⟩; obtain ⟨yy0, yy1, yy2, _⟩ := n9.three (k := k14) (x := ⟨4, 0, ⟨#[]⟩⟩) (by simp); have L9 : k14 < w9.heap.size := n9.lt (p := (k14, [⟨4, 0, ⟨#[]⟩⟩])) (by simp); have nn9 : ¬ w9.heap.size = k14 := Nat.ne_of_gt L9; have nm9 : ¬ k14 = w9.heap.size := Nat.ne_of_lt L9; have F9 := Lib.hid (n9.sub (List.Sublist.cons_cons _ (List.sublist_cons_self _ _))); obtain ⟨zl, zv0, zv1, zv2, zf0, zf1, zf2⟩ := ZV.facts (show ZV w9 _ from (F9.out.own _ (List.mem_cons_self ..)).2); clear n9)))
    all_goals go_wp2_with fail
    all_goals (
      go_meet
      first
        | exact ⟨rfl, Lib.hid (G9.out.ext' ((Ext.refl _).alloc _))⟩
        | exact ⟨rfl, Lib.hid ((F9.out.put (y := ⟨0, 0, ⟨#[]⟩⟩)).sub (List.sublist_cons_self _ _))⟩)
  case rest =>
  obtain ⟨rfl, HN⟩ := hcut
  obtain ⟨wy, rfl⟩ : ∃ wy : World, wy = wc := ⟨_, rfl⟩
  clear N M c0 c1 c2 hb HE d0 d1 d2 x0 x1 x2
  go_wp2_with fail
  go_upto_region 9 with (fail)
  go_cut [19, 20] (fun s19 s20 wx => ∃ k19, s19 = .pointer (some ⟨k19, 0, none⟩) ∧ s20 = .string ⟨#[]⟩ ∧ Hid (NH w wx g wH5 ((k19, [⟨3, 0, ⟨#[120, 43, 55]⟩⟩]) :: [(k14, [⟨4, 0, ⟨#[]⟩⟩]), (k5, [⟨2, 3, ⟨#[]⟩⟩]), (k2, [⟨3, 0, ⟨#[98, 99, 100]⟩⟩])])))
  case first =>
    obtain ⟨c0, c1, c2, _⟩ := HN.out.three (k := k14) (x := ⟨4, 0, ⟨#[]⟩⟩) (by simp)
    have hb : k14 < wy.heap.size := HN.out.lt (p := (k14, [⟨4, 0, ⟨#[]⟩⟩])) (by simp)
    have hne : ¬ wy.heap.size = k14 := by omega
    have hne2 : ¬ k14 = wy.heap.size := by omega
    go_region_held3 (fun w' => w'.cell? ⟨k14, 0, none⟩ = some (.int .i64 4) ∧ w'.cell? ⟨k14, 1, none⟩ = some (.int .i64 0) ∧ w'.cell? ⟨k14, 2, none⟩ = some (.string ⟨#[]⟩)) (go_keep)
      (first
        | (go_at_call 16; refine (text_any _ _).mono ?_; rintro e w3 ⟨rfl, eq⟩; (try (have hq : Ext (World.drew wy) w3 := (by with_reducible exact eq); have Aw3 := Lib.hid (HN.out.ext' ((Ext.refl wy).drew.trans hq)); have EEw3 := Lib.hid ((Ext.refl wy).drew.trans hq); clear hq)); (try (have hq : Ext (World.alloc (World.drew wy) (.cells #[.int .i64 0, .int .i64 0, .string ⟨#[]⟩] 26)) w3 := (by with_reducible exact eq); have Bw3 := Lib.hid (((HN.out.ext' (Ext.refl wy).drew).new (l := [Vl.zero]) #[.int .i64 0, .int .i64 0, .string ⟨#[]⟩] rfl).ext' hq); have EEw3 := Lib.hid (((Ext.refl wy).drew.alloc (.cells #[.int .i64 0, .int .i64 0, .string ⟨#[]⟩] 26)).trans hq); clear hq)); (try (have hq : Ext (World.drew (World.alloc wy (.cells #[.int .i64 0, .int .i64 0, .string ⟨#[]⟩] 26))) w3 := (by with_reducible exact eq); have Bw3 := Lib.hid ((((HN.out.new (l := [Vl.zero]) #[.int .i64 0, .int .i64 0, .string ⟨#[]⟩] rfl).ext' (Ext.refl _).drew)).ext' hq); have EEw3 := Lib.hid (((Ext.refl wy).alloc (.cells #[.int .i64 0, .int .i64 0, .string ⟨#[]⟩] 26)).drew.trans hq); clear hq)); have x0 := (EEw3.out.cells.1 _ _ hb).trans c0; have x1 := (EEw3.out.cells.1 _ _ hb).trans c1; have x2 := (EEw3.out.cells.1 _ _ hb).trans c2; have Lw3 : k14 < w3.heap.size := Nat.lt_of_lt_of_le hb EEw3.out.le; have nnw3 : ¬ w3.heap.size = k14 := Nat.ne_of_gt Lw3; have nmw3 : ¬ k14 = w3.heap.size := Nat.ne_of_lt Lw3; have nkw3 : ¬ w3.heap.size + 1 = k14 := (by omega); have nlw3 : ¬ k14 = w3.heap.size + 1 := (by omega); clear eq)
        | (go_at_call 15; first
            | (have hz : Hid (NH w w3 g wH4 ((wy.heap.size, [Vl.zero]) :: [(k14, [⟨4, 0, ⟨#[]⟩⟩]), (k5, [⟨2, 3, ⟨#[]⟩⟩]), (k2, [⟨3, 0, ⟨#[98, 99, 100]⟩⟩])])) := (by with_reducible assumption); have CC := wk_concat (hz.out.new (l := lConcat) #[.int .i64 4, .int .i64 0, .string ⟨#[]⟩, .int .i64 3, .int .i64 0, .string ⟨#[43]⟩] rfl) (List.mem_cons_self ..) HL.out 2; (try simp only [size_alloc] at CC); (with_reducible refine Calls.mono CC ?_); clear CC; rintro e w9 ⟨rfl, n9⟩; obtain ⟨yy0, yy1, yy2, _⟩ := n9.three (k := k14) (x := ⟨4, 0, ⟨#[]⟩⟩) (by simp); have L9 : k14 < w9.heap.size := n9.lt (p := (k14, [⟨4, 0, ⟨#[]⟩⟩])) (by simp); have nn9 : ¬ w9.heap.size = k14 := Nat.ne_of_gt L9; have nm9 : ¬ k14 = w9.heap.size := Nat.ne_of_lt L9; have F9 := Lib.hid (n9.sub (List.sublist_cons_self _ _)); obtain ⟨zl, zv0, zv1, zv2, zf0, zf1, zf2⟩ := ZV.facts (show ZV w9 _ from (F9.out.own _ (List.mem_cons_self ..)).2); clear n9)
            | (have hz : Hid (NH w w3 g wH4 [(k14, [⟨4, 0, ⟨#[]⟩⟩]), (k5, [⟨2, 3, ⟨#[]⟩⟩]), (k2, [⟨3, 0, ⟨#[98, 99, 100]⟩⟩])]) := (by with_reducible assumption); have CC := wk_concat (hz.out.new (l := lConcat) #[.int .i64 4, .int .i64 0, .string ⟨#[]⟩, .int .i64 3, .int .i64 0, .string ⟨#[43]⟩] rfl) (List.mem_cons_self ..) HL.out 2; (try simp only [size_alloc] at CC); (with_reducible refine Calls.mono CC ?_); clear CC; rintro e w9 ⟨rfl, n9⟩; obtain ⟨yy0, yy1, yy2, _⟩ := n9.three (k := k14) (x := ⟨4, 0, ⟨#[]⟩⟩) (by simp); have L9 : k14 < w9.heap.size := n9.lt (p := (k14, [⟨4, 0, ⟨#[]⟩⟩])) (by simp); have nn9 : ¬ w9.heap.size = k14 := Nat.ne_of_gt L9; have nm9 : ¬ k14 = w9.heap.size := Nat.ne_of_lt L9; have G9 := Lib.hid (n9.sub (List.sublist_cons_self _ _)); clear n9)
            | (have hz : Hid (NH w w3 g wH4 [(k14, [⟨4, 0, ⟨#[]⟩⟩]), (k5, [⟨2, 3, ⟨#[]⟩⟩]), (k2, [⟨3, 0, ⟨#[98, 99, 100]⟩⟩])]) := (by with_reducible assumption); have CC := wk_concat ((hz.out.new (l := [Vl.zero]) #[.int .i64 0, .int .i64 0, .string ⟨#[]⟩] rfl).new (l := lConcat) #[.int .i64 4, .int .i64 0, .string ⟨#[]⟩, .int .i64 3, .int .i64 0, .string ⟨#[43]⟩] rfl) (List.mem_cons_self ..) HL.out 2; (try simp only [size_alloc] at CC); (with_reducible refine Calls.mono CC ?_); clear CC; rintro e w9 ⟨rfl, n9⟩; obtain ⟨yy0, yy1, yy2, _⟩ := n9.three (k := k14) (x := ⟨4, 0, ⟨#[]⟩⟩) (by simp); have L9 : k14 < w9.heap.size := n9.lt (p := (k14, [⟨4, 0, ⟨#[]⟩⟩])) (by simp); have nn9 : ¬ w9.heap.size = k14 := Nat.ne_of_gt L9; have nm9 : ¬ k14 = w9.heap.size := Nat.ne_of_lt L9; have F9 := Lib.hid (n9.sub (List.sublist_cons_self _ _)); obtain ⟨zl, zv0, zv1, zv2, zf0, zf1, zf2⟩ := ZV.facts (show ZV w9 _ from (F9.out.own _ (List.mem_cons_self ..)).2); clear n9)
            | (have hz : Hid (NH w w3 g wH4 [(k14, [⟨4, 0, ⟨#[]⟩⟩]), (k5, [⟨2, 3, ⟨#[]⟩⟩]), (k2, [⟨3, 0, ⟨#[98, 99, 100]⟩⟩])]) := (by with_reducible assumption); have CC := wk_concat ((hz.out.new (l := lConcat) #[.int .i64 4, .int .i64 0, .string ⟨#[]⟩, .int .i64 3, .int .i64 0, .string ⟨#[43]⟩] rfl).new (l := [Vl.zero]) #[.int .i64 0, .int .i64 0, .string ⟨#[]⟩] rfl) (List.mem_cons_of_mem _ (List.mem_cons_self ..)) HL.out 2; (try simp only [size_alloc] at CC); (with_reducible refine Calls.mono CC ?_); clear CC; rintro e w9 ⟨rfl, n9⟩; obtain ⟨yy0, yy1, yy2, _⟩ := n9.three (k := k14) (x := ⟨4, 0, ⟨#[]⟩⟩) (by simp); have L9 : k14 < w9.heap.size := n9.lt (p := (k14, [⟨4, 0, ⟨#[]⟩⟩])) (by simp); have nn9 : ¬ w9.heap.size = k14 := Nat.ne_of_gt L9; have nm9 : ¬ k14 = w9.heap.size := Nat.ne_of_lt L9; have F9 := Lib.hid (n9.sub (List.Sublist.cons_cons _ (List.sublist_cons_self _ _))); obtain ⟨zl, zv0, zv1, zv2, zf0, zf1, zf2⟩ := ZV.facts (show ZV w9 _ from (F9.out.own _ (List.mem_cons_self ..)).2); clear n9)))
    all_goals go_wp2_with fail
    all_goals (
      go_meet
      first
        | exact ⟨_, rfl, rfl, Lib.hid (G9.out.new (l := [⟨3, 0, ⟨#[120, 43, 55]⟩⟩]) _ rfl)⟩
        | exact ⟨_, rfl, rfl, Lib.hid (F9.out.put (y := ⟨3, 0, ⟨#[120, 43, 55]⟩⟩))⟩)
  case rest =>
  obtain ⟨k19, rfl, rfl, HM⟩ := hcut
  obtain ⟨wz, rfl⟩ : ∃ wz : World, wz = wc := ⟨_, rfl⟩
  clear HN
  obtain ⟨a0, a1, a2, _⟩ := HM.out.three (k := k19) (x := ⟨3, 0, ⟨#[120, 43, 55]⟩⟩) (by simp)
  obtain ⟨b0, b1, b2, _⟩ := HM.out.three (k := k5) (x := ⟨2, 3, ⟨#[]⟩⟩) (by simp)
  obtain ⟨c0, c1, c2, _⟩ := HM.out.three (k := k2) (x := ⟨3, 0, ⟨#[98, 99, 100]⟩⟩) (by simp)
  have hg := fun a b x y W => vl_guard .eql (.inl rfl) a b x y W
  have hv1 : ∀ W, (binOp .eql 26 (vv 3 0 ⟨#[98, 99, 100]⟩) (vv 3 0 ⟨#[98, 99, 100]⟩)).run Tryz.prog W = .ok (.bool true) W := fun W => vl_eql ⟨3, 0, ⟨#[98, 99, 100]⟩⟩ ⟨3, 0, ⟨#[98, 99, 100]⟩⟩ W
  have hv2 : ∀ W, (binOp .eql 26 (vv 2 3 ⟨#[]⟩) (vv 2 3 ⟨#[]⟩)).run Tryz.prog W = .ok (.bool true) W := fun W => vl_eql ⟨2, 3, ⟨#[]⟩⟩ ⟨2, 3, ⟨#[]⟩⟩ W
  have hv3 : ∀ W, (binOp .eql 26 (vv 3 0 ⟨#[120, 43, 55]⟩) (vv 3 0 ⟨#[120, 43, 55]⟩)).run Tryz.prog W = .ok (.bool true) W := fun W => vl_eql ⟨3, 0, ⟨#[120, 43, 55]⟩⟩ ⟨3, 0, ⟨#[120, 43, 55]⟩⟩ W
  go_wp2_with fail
  refine wp_region_ext (by kernel_rfl) (by kernel_rfl) ?_
  repeat (
    first
      | go_big_quiet_skip
      | (go_big_quiet_want
         go_big_quiet_op
         first
           | go_big_quiet_on
           | (apply Exists.intro
              refine ⟨fun wq hq => ?_, ?_⟩
              focus (
                have a0 := cell_of_ext a0 hq
                have a1 := cell_of_ext a1 hq
                have a2 := cell_of_ext a2 hq
                have b0 := cell_of_ext b0 hq
                have b1 := cell_of_ext b1 hq
                have b2 := cell_of_ext b2 hq
                have c0 := cell_of_ext c0 hq
                have c1 := cell_of_ext c1 hq
                have c2 := cell_of_ext c2 hq
                first
                  | (go_at_call 17; exact Calls.ext_of hq (int_any _ _); done)
                  | (go_at_call 16; exact Calls.ext_of hq (text_any _ _); done)
                  | (go_at_call 33; exact Calls.ext_of hq (wk_rep _); done)
                  | (go_simp; exact rfl))
              go_big_quiet_on)))
  refine wpQuiet_nil ?_
  intro we hwe
  clear a0 a1 a2 b0 b1 b2 c0 c1 c2
  go_wp2_with fail
  go_ret
  exact ⟨rfl, HM.out.ext.trans hwe⟩
end Go.Proofs.YtfagldjhibdfhaaGreatDoor
namespace Go.Proofs.YtfagldjhibdfhaaGreatDoor
open Go.ChangeShapes Go.WideShapes Go.ChangeAt Go.RowKit Go.Joins Go.Deep
set_option linter.unusedVariables false
set_option linter.unusedSimpArgs false

abbrev laid5 : List (String × DataW Unit) := [("math/bits.deBruijn32tab", Rows.laid_math_bits_deBruijn32tab), ("math/bits.deBruijn64tab", Rows.laid_math_bits_deBruijn64tab), ("internal/strconv.uint64pow10", Rows.laid_internal_strconv_uint64pow10), ("strconv.ErrRange", Rows.laid_strconv_ErrRange), ("strconv.ErrSyntax", Rows.laid_strconv_ErrSyntax)]
theorem own : ownKnob Tryz.prog.godebug = none := by kernel_rfl
theorem starE : "*" ++ "errors.errorString" = "*errors.errorString" := by decide
theorem rowE (u : TypeId) (h : Tryz.prog.typeName? 3 u = some "*errors.errorString") : u = 229 :=
 typeName_ptr_named (nm := "errors.errorString") (by rw [starE]; kernel_rfl) (by kernel_rfl) (by decide) u (by rw [starE]; exact h)
theorem gSyn : Tryz.prog.globalNamed "strconv.ErrSyntax" = some 2 := by kernel_rfl
theorem gRng : Tryz.prog.globalNamed "strconv.ErrRange" = some 3 := by kernel_rfl
set_option maxRecDepth 100000 in
theorem llaid_of {W : World} (h : laidMetH Tryz.prog laid5 W) (hs : W.ShapedOpen Tryz.prog) : LLaid W := by
 refine ⟨?_, ?_, ?_, ?_⟩
 ·exact Lib.tabIs_of_head (t := 218) (e := 169) (n := 20) (rest := []) powG (by kernel_rfl) (by kernel_rfl) (by kernel_rfl) (by kernel_rfl) (by kernel_rfl) (laidMetH.filter (fun x => x.1 == "internal/strconv.uint64pow10") h)
 ·obtain ⟨a, s, hv, _⟩ := laid_sentinel (r := []) (text := [105, 110, 118, 97, 108, 105, 100, 32, 115, 121, 110, 116, 97, 120]) (laidMetH.filter (fun x => x.1 == "strconv.ErrSyntax") h) gSyn (by kernel_rfl) Tryz.underlying127 rowE Tryz.underlying229 Tryz.underlying231 rfl rfl Tryz.underlying9 (by kernel_rfl) (by kernel_rfl)
  exact ⟨_, _, by have h0 := World.var?_cell gSyn hv 0; simpa using h0⟩
 ·obtain ⟨a, s, hv, _⟩ := laid_sentinel (r := []) (text := [118, 97, 108, 117, 101, 32, 111, 117, 116, 32, 111, 102, 32, 114, 97, 110, 103, 101]) (laidMetH.filter (fun x => x.1 == "strconv.ErrRange") h) gRng (by kernel_rfl) Tryz.underlying127 rowE Tryz.underlying229 Tryz.underlying231 rfl rfl Tryz.underlying9 (by kernel_rfl) (by kernel_rfl)
  exact ⟨_, _, by have h0 := World.var?_cell gRng hv 0; simpa using h0⟩
 ·exact Go.Proofs.cell_of_shapedOpen_int (g := 0) (zero := #[.int .i64 0]) (t := 3) hs (of_decide_eq_true (by kernel_rfl)) (by kernel_rfl) rfl (by kernel_rfl) (by kernel_rfl) Tryz.underlying3
theorem laid5_met (os : Os) (args : Array Value) : laidMet Tryz.prog laid5 ((World.laidAll Tryz.prog os laid5).forCall (fun _ _ => 0) ⟨#[], args, []⟩).memory :=
 laidMet_laidAll args (by kernel_rfl) (by kernel_rfl)
theorem laidOut : laidOutB Tryz.prog = true := by kernel_rfl
variable {H : Type} {enc : TypeId × Value → H}
theorem trodAll_ext {P : Program} (hl : laidOutB P = true) {W W' : World} (hb : Below W.heap.size W W') :
  ∀ {ts : List TypeId} {vs : List Value} {ds : List (DataW H)} {ps : List MemPlace}, (ts.all fun t => P.readableRec t && decide (t < P.types.size)) = true → DataW.TrodAll enc P W 0 (fun _ => true) true ts vs ds ps → (∀ x ∈ ps, x.block < W.heap.size) → DataW.TrodAll enc P W' 0 (fun b => decide (b < W.heap.size)) true ts vs ds ps
 | [], [], [], _, _, h, _ => h
 | t :: ts, v :: vs, d :: ds, ps, hr, h, hlt => by
  obtain ⟨p, q, h1, h2, e⟩ := h
  simp only [List.all_cons, Bool.and_eq_true, decide_eq_true_eq] at hr
  subst e
  exact ⟨p, q, Below.trod hl hr.1.1 hr.1.2 h1 hb (fun x hx => hlt x (by simp [hx])), trodAll_ext hl hb (by simpa using hr.2) h2 (fun x hx => hlt x (by simp [hx])), rfl⟩
 | [], _ :: _, _, _, _, h, _ => h.elim
 | [], [], _ :: _, _, _, h, _ => h.elim
 | _ :: _, [], _, _, _, h, _ => h.elim
 | _ :: _, _ :: _, [], _, _, h, _ => h.elim
theorem post_grown {P : Program} {f : Func} {s : ChangeSpec} {apart fresh handsOn : Bool} {W W' : World} {args : Array Value} {v : Value} {ds gs : List (DataW H)} {before : List MemPlace}
  (hl : laidOutB P = true) (hr : (f.params.toList.all fun t => P.readableRec t && decide (t < P.types.size)) = true) (hvar : s.vars = [])
  (hW : DataW.Whole enc P f.params.toList s.vars apart W args.toList ds gs before)
  (hres : ∀ (b : Nat) (sp : Nat → Bool) (hd : Bool), DataW.TrodAll enc P W' b sp hd f.resultTypes.toList (v.resultList f.resultTypes.size) (s.fn H (ds ++ gs)).results [])
  (ha : (s.fn H (ds ++ gs)).args = ds) (hv : (s.fn H (ds ++ gs)).vars = [])
  (he : Ext W W') :
  s.post enc P f apart fresh handsOn false W args v W' := by
 have hlt := hW.lt
 have hW' := hW
 obtain ⟨p, q, hA, hV, rfl, hfz, hnd⟩ := hW
 refine ⟨ds, gs, _, [], p, [], hW', hres _ _ _, ?_, ?_, Below.frame he _, fun h => by cases h⟩
 ·rw [ha]
  exact trodAll_ext hl he hr hA (fun x hx => hlt x (by simp [hx]))
 ·rw [hvar, hv]; exact rfl
end Go.Proofs.YtfagldjhibdfhaaGreatDoor
