/- code.Read: a text's lines. code.Read in plain words: what its rounds make of a text. code.Read in plain words: the lines of a listing. code.Read: what its loop keeps. -/
import Derived.Test.YtfjipoijbmmjcaaGreatDoorYB6
import Derived.Test.YtfjipoijbmmjcaaGreatDoorYA1
import Derived.Lib.IndexBytes
import Derived.Shelf.RegionOpen
import Derived.WalkKit
import Derived.OwnWalkIn
import Derived.TacticsInMore
import Derived.LoopNIn
import Derived.LoopIn
import Derived.RegionIn
import Derived.Test.YtfjipoijbmmjcaaGreatDoorYA9
namespace Go.Proofs.YtfjipoijbmmjcaaGreatDoor
open Go.RowKit Go.Shelf
set_option linter.unusedVariables false
set_option linter.unusedSimpArgs false
attribute [local go_sem] Oper.semAt_some

def lns : List UInt8 → List (List UInt8)
 | [] => []
 | b :: l => if b = 10 then [10] :: lns l else match lns l with
  | [] => [[b]]
  | x :: xs => (b :: x) :: xs
theorem lns_hit (l r : List UInt8) (h : (10 : UInt8) ∉ l) : lns (l ++ 10 :: r) = (l ++ [10]) :: lns r := by
 induction l with
 | nil => simp [lns]
 | cons b l ih =>
  have h1 : ¬ b = 10 := fun e => h (by simp [e])
  have h2 := ih (fun h' => h (List.mem_cons_of_mem _ h'))
  rw [List.cons_append, lns, if_neg h1, h2]
  rfl
theorem lns_miss (l : List UInt8) (h : (10 : UInt8) ∉ l) (h0 : l ≠ []) : lns l = [l] := by
 induction l with
 | nil => exact absurd rfl h0
 | cons b l ih =>
  have h1 : ¬ b = 10 := fun e => h (by simp [e])
  rw [lns, if_neg h1]
  by_cases hl : l = []
  ·subst hl; rfl
  ·rw [ih (fun h' => h (List.mem_cons_of_mem _ h')) hl]
def linesB (s : ByteArray) : List ByteArray := (lns s.data.toList).map ba
theorem ib_cases (l : List UInt8) : ((10 : UInt8) ∉ l ∧ Lib.indexByte l 10 = -1) ∨ ∃ a r, l = a ++ 10 :: r ∧ (10 : UInt8) ∉ a ∧ Lib.indexByte l 10 = (a.length : Int) := by
 induction l with
 | nil => exact .inl ⟨by simp, rfl⟩
 | cons b l ih =>
  by_cases hb : b = 10
  ·exact .inr ⟨[], l, by simp [hb], by simp, by unfold Lib.indexByte; simp [hb]⟩
  ·have h1 : (b == 10) = false := by rw [beq_eq_false_iff_ne]; exact hb
   rcases ih with ⟨h2, h3⟩ | ⟨a, r, rfl, h2, h3⟩
   ·refine .inl ⟨?_, ?_⟩
    ·intro h; rcases List.mem_cons.1 h with h | h
     ·exact hb h.symm
     ·exact h2 h
    ·unfold Lib.indexByte; rw [h1, h3]; rfl
   ·refine .inr ⟨b :: a, r, rfl, ?_, ?_⟩
    ·intro h; rcases List.mem_cons.1 h with h | h
     ·exact hb h.symm
     ·exact h2 h
    ·unfold Lib.indexByte; rw [h1, h3]
     have h4 : ((a.length : Int) == -1) = false := by rw [beq_eq_false_iff_ne]; omega
     rw [h4]; simp
theorem line_step (t : ByteArray) (h : t.size ≠ 0) : (Lib.indexByte t.data.toList 10 = -1 ∧ linesB t = [t]) ∨
  ∃ k : Nat, Lib.indexByte t.data.toList 10 = (k : Int) ∧ k + 1 ≤ t.size ∧ linesB t = t.extract 0 (k + 1) :: linesB (t.extract (k + 1) t.size) := by
 have hl : t.data.toList ≠ [] := fun e => h (by
  have e2 := congrArg List.length e
  simpa using e2)
 rcases ib_cases t.data.toList with ⟨h1, h2⟩ | ⟨a, r, h1, h2, h3⟩
 ·refine .inl ⟨h2, ?_⟩
  unfold linesB
  rw [lns_miss _ h1 hl]
  simp [ba_of]
 ·refine .inr ⟨a.length, h3, ?_, ?_⟩
  ·have e2 := congrArg List.length h1
   have e3 : t.data.toList.length = t.size := by simp
   rw [e3, List.length_append, List.length_cons] at e2
   omega
  ·have hx : t = ba (a ++ 10 :: r) := by rw [← h1, ba_of]
   have e1 : t.extract 0 (a.length + 1) = ba (a ++ [10]) := by
    rw [hx]
    apply ByteArray.ext
    apply Array.toList_inj.1
    rw [Lib.extract_from_zero]
    show (ba _).data.toList.take _ = (ba _).data.toList
    rw [ba_list, ba_list]
    rw [show a ++ (10 : UInt8) :: r = (a ++ [10]) ++ r by simp, List.take_append_of_le_length (by simp), List.take_of_length_le (by simp)]
   have e2 : t.extract (a.length + 1) t.size = ba r := by
    rw [hx]
    apply ByteArray.ext
    apply Array.toList_inj.1
    rw [Lib.extract_to_end]
    show (ba _).data.toList.drop _ = (ba _).data.toList
    rw [ba_list, ba_list]
    simp
   unfold linesB
   rw [e1, e2, h1, lns_hit _ _ h2, ba_list]
   rfl
theorem linesB_nil {t : ByteArray} (h : t.size = 0) : linesB t = [] := by
 have : t.data.toList = [] := List.eq_nil_of_length_eq_zero (by simpa using h)
 unfold linesB
 rw [this]
 rfl
def KpB (B b : Nat) (W W' : World) : Prop := Below B W W' ∧ W'.heap[b]? = W.heap[b]?
theorem KpB.t {B b : Nat} {X Y Z : World} (h : KpB B b X Y) (k : KpB B b Y Z) : KpB B b X Z := ⟨h.1.trans k.1, k.2.trans h.2⟩
theorem KpB.b {B b : Nat} {w : World} (hB : B ≤ w.heap.size) (hb : b < w.heap.size) (W : World) (l : Nat) (o o' : Obj) (hl : w.heap.size ≤ l) (h : W.heap[l]? = some o) (h1 : o.isCells = false) (h2 : o.isWalk = false) : KpB B b W (W.putObj l o') :=
 ⟨belowK_b hB W l o o' hl h h1 h2, World.putObj_heap_other (by omega)⟩
def RLn (s : ByteArray) (pre : List ByteArray) (x : ByteArray) : Prop := ∃ rest, linesB s = pre ++ x :: rest
theorem J_drew {J : List ByteArray → World → Prop} {D : Nat} (hJ : AbidesFrom D J) {pre : List ByteArray} {W : World} (h : J pre W) : J pre W.drew :=
 hJ pre W W.drew none h ⟨rfl, rfl, rfl, Nat.le_refl _, fun _ _ _ => rfl⟩ (fun r e => by cases e)
def boxSz (w : World) (b : Nat) : Nat := match w.cell? ⟨b, 0, none⟩ with
 | some (.string t) => t.size
 | _ => 0
theorem boxSz_of {w : World} {b : Nat} {t : ByteArray} (h : Blk w b 9 #[.string t]) : boxSz w b = t.size := by
 unfold boxSz
 rw [show w.cell? ⟨b, 0, none⟩ = some (.string t) from h.cell 0]
theorem lines_in (n : Nat) (s : ByteArray) (w : World) :
  CallsIn Fence.wide n Tryz.prog 21 #[.string s] w fun e w' => e = .returned (.func (.func 38) #[] #[.pointer (some ⟨w.heap.size, 0, none⟩)]) ∧ w.alloc (.cells #[.string s] 9) = w' := by
 refine callsIn_of_wp Tryz.func21 rfl trivial ?_ rfl
 simp only [Tryz.ntmps21, List.size_toArray, List.length_cons, List.length_nil, Nat.reduceAdd, Nat.reduceSub, Array.replicate_succ, Array.replicate_zero, List.push_toArray, List.append_toArray, List.nil_append, List.cons_append]
 gi_wp2
 go_ret
 exact ⟨rfl, rfl⟩
set_option maxRecDepth 100000 in
set_option maxHeartbeats 2000000 in
theorem line_in (n : Nat) (hn : 1 ≤ n) (B b : Nat) (s : ByteArray) (hs : s.size ≤ 4611686018427387904) (w : World) (hBw : B ≤ w.heap.size) (hBb : B ≤ b) (hb : b < w.heap.size) (hbs : Blk w b 9 #[.string s]) :
  SeqB Fence.wide n Tryz.prog b 38 #[.pointer (some ⟨b, 0, none⟩)] (fun x : ByteArray => #[Value.string x]) (KpB B b) (RLn s) (fun _ => True) (fun xs => xs = linesB s) (fun _ => True) w := fun l J Jx W hW hJ hJx hY hJb h0 => by
 have hbW := Lib.hid (show Blk W b 9 #[.string s] from (hW.block b hb).trans hbs)
 have hmx : Tryz.prog.follows .mixedOrders = true := by kernel_rfl
 clear hbs
 refine callsIn_of_wp Tryz.func38 rfl trivial ?_ rfl
 simp only [Tryz.ntmps38, List.size_toArray, List.length_cons, List.length_nil, Nat.reduceAdd, Nat.reduceSub, Array.replicate_succ, Array.replicate_zero, List.push_toArray, List.append_toArray, List.nil_append, List.cons_append]
 gi_wp2
 gi_loopw [3, 4] (fun v3 v4 wr => ∃ (pre : List ByteArray) (t : ByteArray), Hid (Blk wr b 9 #[.string t]) ∧ Hid (linesB s = pre ++ linesB t) ∧ Hid (t.size ≤ 4611686018427387904) ∧ Hid (J pre wr)) (fun _ _ wr => boxSz wr b)
 case atStart => exact ⟨[], s, hbW, Lib.hid rfl, Lib.hid hs, Lib.hid h0⟩
 case round =>
  obtain ⟨pre, t, HB, HL, HS, HJ⟩ := hrel
  have c0 : wr.cell? ⟨b, 0, none⟩ = some (.string t) := HB.out.cell 0
  have f0 : wr.frozen? ⟨b, 0, none⟩ = false := HB.out.frozen 0
  by_cases ht : t.size = 0
  ·have d1 : decide (0 < t.size) = false := decide_eq_false (by omega)
   have d2 : decide ((0 : Int) < (t.size : Int)) = false := decide_eq_false (by omega)
   have HLE := Lib.hid (show linesB s = pre by rw [HL.out, linesB_nil ht, List.append_nil])
   clear ht
   gi_wp2
   go_end0
   exact ⟨⟨_, rfl⟩, .inl ⟨_, HLE.out.symm, HJ.out⟩⟩
  ·have d1 : decide (0 < t.size) = true := decide_eq_true (by omega)
   have d2 : decide ((0 : Int) < (t.size : Int)) = true := decide_eq_true (by omega)
   have hst := line_step t ht
   have cI : Calls Tryz.prog 39 #[.string t, .int .u8 10] wr fun e w' => e = .returned (.int .i64 (Lib.indexByte t.data.toList 10)) ∧ w' = wr := Tryz.strings_IndexByte t 10 wr
   have HT := Lib.hid ht
   clear ht
   rcases hst with ⟨h1, h2⟩ | ⟨k, h1, h2, h3⟩
   ·rw [h1] at cI
    obtain ⟨fn, tmps, assign, body, hy, hR⟩ := hY pre t (wr.setCell ⟨b, 0, none⟩ (.string ⟨#[]⟩)) (hJb _ _ _ HJ.out) ⟨[], by rw [HL.out, h2]⟩
    have HB2 := Lib.hid (show Blk (wr.setCell ⟨b, 0, none⟩ (.string ⟨#[]⟩)) b 9 #[.string ⟨#[]⟩] from HB.out.set_ 0 (.string ⟨#[]⟩))
    have HL2 := Lib.hid (show linesB s = (pre ++ [t]) ++ linesB ⟨#[]⟩ by rw [HL.out, h2]; simp [linesB_nil (t := ⟨#[]⟩) rfl])
    clear h1 h2
    gi_wp2
    refine ⟨trivial, (callsIn_wide.2 cI).mono ?_⟩
    rintro e w' ⟨rfl, rfl⟩
    gi_wp2
    refine hR.mono ?_
    rintro e W3 (⟨rfl, _, hJ3, hk3⟩ | ⟨rfl, hJx3⟩)
    ·have HB3 := Lib.hid (show Blk W3 b 9 #[.string ⟨#[]⟩] from hk3.2.trans HB2.out)
     have HJ3 := Lib.hid hJ3
     clear hk3 hJ3
     gi_wp2
     go_roundw
     case rel => exact ⟨pre ++ [t], ⟨#[]⟩, HB3, HL2, Lib.hid (by decide), HJ3⟩
     case measure =>
      rw [boxSz_of HB3.out, boxSz_of HB.out]
      have := HT.out
      show 0 < _
      omega
    ·gi_wp2
     refine bodyPost_ret (results_none rfl _ _ _) rfl ?_
     exact ⟨⟨_, rfl⟩, .inr ⟨_, trivial, hJx3⟩⟩
   ·rw [h1] at cI
    clear h1
    have HK := Lib.hid h2
    have HL0 := Lib.hid h3
    have d3 : (0 : Int) ≤ (k : Int) := by omega
    have d4 : IntKind.i64.wrap ((k : Int) + 1) = (k : Int) + 1 := by have h5 := HS.out; exact IntWalk.i64_in _ (by omega)
    have d5 : (k : Int) + 1 ≤ (t.size : Int) := by omega
    clear h3
    gi_wp2
    refine ⟨trivial, (callsIn_wide.2 cI).mono ?_⟩
    rintro e w' ⟨rfl, rfl⟩
    gi_wp2
    gi_region
    all_goals
     obtain ⟨fn, tmps, assign, body, hy, hR⟩ := hY pre (t.extract 0 (k + 1)) ((w'.setCell ⟨b, 0, none⟩ (.string (t.extract (k + 1) t.size))).drew) (J_drew hJ (hJb _ _ _ HJ.out)) ⟨linesB (t.extract (k + 1) t.size), by rw [HL.out, HL0.out]⟩
     have HB2 := Lib.hid (show Blk ((w'.setCell ⟨b, 0, none⟩ (.string (t.extract (k + 1) t.size))).drew) b 9 #[.string (t.extract (k + 1) t.size)] from HB.out.set_ 0 (.string (t.extract (k + 1) t.size)))
     have HL2 := Lib.hid (show linesB s = (pre ++ [t.extract 0 (k + 1)]) ++ linesB (t.extract (k + 1) t.size) by rw [HL.out, HL0.out]; simp)
     clear h2 d1 d2 d3 d4 d5 c0 f0
     gi_wp2
     refine hR.mono ?_
     rintro e W3 (⟨rfl, _, hJ3, hk3⟩ | ⟨rfl, hJx3⟩)
     ·have HB3 := Lib.hid (show Blk W3 b 9 #[.string (t.extract (k + 1) t.size)] from hk3.2.trans HB2.out)
      have HJ3 := Lib.hid hJ3
      clear hk3 hJ3
      gi_wp2
      go_roundw
      case rel => exact ⟨pre ++ [t.extract 0 (k + 1)], t.extract (k + 1) t.size, HB3, HL2, Lib.hid (Nat.le_trans (extract_size_le _ _ _) HS.out), HJ3⟩
      case measure =>
       rw [boxSz_of HB3.out, boxSz_of HB.out, ByteArray.size_extract]
       have := HT.out
       omega
     ·gi_wp2
      refine bodyPost_ret (results_none rfl _ _ _) rfl ?_
      exact ⟨⟨_, rfl⟩, .inr ⟨_, trivial, hJx3⟩⟩
end Go.Proofs.YtfjipoijbmmjcaaGreatDoor
namespace Go.Proofs.YtfjipoijbmmjcaaGreatDoor
open Go.RowKit
set_option linter.unusedVariables false
set_option linter.unusedSimpArgs false

def endsNl (x : ByteArray) : Bool := Lib.hasSuffix x.data.toList [10]
def chop (x : ByteArray) : ByteArray := ⟨(Lib.trimSuffix x.data.toList [10]).toArray⟩
theorem ends_ba (l : List UInt8) : endsNl (ba (l ++ [10])) = true := by
 unfold endsNl Lib.hasSuffix
 rw [ba_list, List.isSuffixOf_iff_suffix]
 exact List.suffix_append _ _
theorem chop_ba (l : List UInt8) : chop (ba (l ++ [10])) = ba l := by
 have h := ends_ba l
 unfold endsNl at h
 unfold chop Lib.trimSuffix
 rw [if_pos h, ba_list]
 simp [ba]
theorem chop_size (x : ByteArray) (h : endsNl x = true) : (chop x).size + 1 = x.size := by
 unfold endsNl at h
 have h2 : 1 ≤ x.data.toList.length := by
  unfold Lib.hasSuffix at h
  rw [List.isSuffixOf_iff_suffix] at h
  simpa using h.length_le
 show (Lib.trimSuffix x.data.toList [10]).toArray.size + 1 = _
 unfold Lib.trimSuffix
 rw [if_pos h]
 simp only [List.size_toArray, List.length_take, List.length_cons, List.length_nil]
 rw [Lib.size_eq]
 omega
theorem chop_le (x : ByteArray) : (chop x).size ≤ x.size := by
 show (Lib.trimSuffix x.data.toList [10]).toArray.size ≤ _
 rw [Lib.size_eq x]
 simpa using Lib.trimSuffix_le x.data.toList [10]
inductive Runs : List ByteArray → Bool → List Pr → List Int → List ByteArray → Prop
 | nil : Runs [] true [] [] []
 | hit {xs : List ByteArray} {x : ByteArray} {ps ps' : List Pr} {is is' : List Int} {ts ts' : List ByteArray} {ok : Bool} (h : Runs xs true ps is ts) (h1 : endsNl x = true) (h2 : AddR (chop x) ps ps' is is' ts ts' ok) : Runs (xs ++ [x]) ok ps' is' ts'
 | miss {xs : List ByteArray} {x : ByteArray} {ps : List Pr} {is : List Int} {ts : List ByteArray} (h : Runs xs true ps is ts) (h1 : endsNl x = false) : Runs (xs ++ [x]) false ps is ts
def totC (ps : List Pr) : Nat := (ps.map fun f => f.cd.length).sum
theorem totC_snoc (ps : List Pr) (f : Pr) : totC (ps ++ [f]) = totC ps + f.cd.length := by simp [totC]
theorem cd_le {ps : List Pr} {f : Pr} (h : f ∈ ps) : f.cd.length ≤ totC ps := by
 induction ps with
 | nil => cases h
 | cons g l ih =>
  rcases List.mem_cons.1 h with rfl | h
  ·simp [totC]
  ·have := ih h
   simp only [totC, List.map_cons, List.sum_cons] at this ⊢
   omega
theorem cnt_tot (ps : List Pr) : cntTo ps ps.length = totC ps := by unfold cntTo totC; rw [List.take_length]
def szs (xs : List ByteArray) : Nat := (xs.map (·.size)).sum
theorem szs_snoc (xs : List ByteArray) (x : ByteArray) : szs (xs ++ [x]) = szs xs + x.size := by simp [szs]
structure Wf (ps : List Pr) (is : List Int) (ts : List ByteArray) (m : Nat) : Prop where
 pr : ∀ f ∈ ps, PrW f
 is : ∀ n ∈ is, i64 n
 ts : ∀ t ∈ ts, t.size ≤ m
theorem Wf.mono {ps : List Pr} {is : List Int} {ts : List ByteArray} {m m' : Nat} (h : Wf ps is ts m) (hm : m ≤ m') : Wf ps is ts m' := ⟨h.pr, h.is, fun t ht => Nat.le_trans (h.ts t ht) hm⟩
theorem wf_grow {s : ByteArray} {ps ps' : List Pr} {is is' : List Int} {ts ts' : List ByteArray} {m : Nat} (hg : Grow s ps ps' is is' ts ts') (h : Wf ps is ts m) : Wf ps' is' ts' (m + s.size) := by
 have h := h.mono (Nat.le_add_right m s.size)
 cases hg with
 | same => exact h
 | fn _ _ _ a b ha hb =>
  refine ⟨fun f hf => ?_, h.is, h.ts⟩
  rcases List.mem_append.1 hf with hf | hf
  ·exact h.pr f hf
  ·rw [List.mem_singleton] at hf; subst hf
   exact ⟨ha, hb, fun i hi => by cases hi⟩
 | ins ps0 f _ _ i hi =>
  refine ⟨fun f' hf => ?_, h.is, h.ts⟩
  rcases List.mem_append.1 hf with hf | hf
  ·exact h.pr f' (List.mem_append_left _ hf)
  ·rw [List.mem_singleton] at hf; subst hf
   have h0 := h.pr f (by simp)
   refine ⟨h0.pa, h0.rg, fun j hj => ?_⟩
   rcases List.mem_append.1 hj with hj | hj
   ·exact h0.cd j hj
   ·rw [List.mem_singleton] at hj; subst hj; exact hi
 | int _ _ _ n hn =>
  refine ⟨h.pr, fun k hk => ?_, h.ts⟩
  rcases List.mem_append.1 hk with hk | hk
  ·exact h.is k hk
  ·rw [List.mem_singleton] at hk; subst hk; exact hn
 | text _ _ _ x hx =>
  refine ⟨h.pr, h.is, fun t ht => ?_⟩
  rcases List.mem_append.1 ht with ht | ht
  ·exact h.ts t ht
  ·rw [List.mem_singleton] at ht; subst ht; omega
def wgt (ps : List Pr) (is : List Int) (ts : List ByteArray) : Nat := ps.length + totC ps + is.length + ts.length
theorem wgt_grow {s : ByteArray} {ps ps' : List Pr} {is is' : List Int} {ts ts' : List ByteArray} (hg : Grow s ps ps' is is' ts ts') : wgt ps' is' ts' ≤ wgt ps is ts + 1 := by
 unfold wgt
 cases hg with
 | same => omega
 | fn _ _ _ a b ha hb => rw [totC_snoc]; simp only [List.length_append, List.length_cons, List.length_nil]; omega
 | ins ps0 f _ _ i hi => rw [totC_snoc, totC_snoc]; simp only [List.length_append, List.length_cons, List.length_nil]; omega
 | int _ _ _ n hn => simp only [List.length_append, List.length_cons, List.length_nil]; omega
 | text _ _ _ x hx => simp only [List.length_append, List.length_cons, List.length_nil]; omega
theorem runs_wf {xs : List ByteArray} {ok : Bool} {ps : List Pr} {is : List Int} {ts : List ByteArray} (h : Runs xs ok ps is ts) : Wf ps is ts (szs xs) := by
 induction h with
 | nil => exact ⟨by simp, by simp, by simp⟩
 | @hit xs x ps ps' is is' ts ts' ok h h1 h2 ih =>
  rw [szs_snoc]
  exact (wf_grow h2.grow ih).mono (by have := chop_le x; omega)
 | @miss xs x ps is ts h h1 ih =>
  rw [szs_snoc]
  exact ih.mono (by omega)
theorem runs_wgt {xs : List ByteArray} {ok : Bool} {ps : List Pr} {is : List Int} {ts : List ByteArray} (h : Runs xs ok ps is ts) : 4 * wgt ps is ts ≤ szs xs + (if ok then 0 else 4) := by
 induction h with
 | nil => decide
 | @hit xs x ps ps' is is' ts ts' ok h h1 h2 ih =>
  rw [szs_snoc]
  have h3 := wgt_grow h2.grow
  have h4 := chop_size x h1
  simp only [if_true] at ih
  cases ok with
  | true => have := h2.long rfl; simp only [if_true]; omega
  | false => simp only [Bool.false_eq_true, if_false]; omega
 | @miss xs x ps is ts h h1 ih =>
  rw [szs_snoc]
  simp only [if_true] at ih
  simp only [Bool.false_eq_true, if_false]
  omega
theorem szs_ba (L : List (List UInt8)) : szs (L.map ba) = L.flatten.length := by
 induction L with
 | nil => rfl
 | cons l L ih =>
  have e : szs ((l :: L).map ba) = l.length + szs (L.map ba) := by simp [szs, ba]; rfl
  rw [e, ih]; simp
theorem lns_flat (l : List UInt8) : (lns l).flatten = l := by
 induction l with
 | nil => rfl
 | cons b l ih =>
  rw [lns]
  split
  ·rename_i hb; subst hb; simp [ih]
  ·split
   ·rename_i h; rw [h] at ih; simp only [List.flatten_nil] at ih; subst ih; rfl
   ·rename_i y ys h; rw [h] at ih; rw [← ih]; simp
theorem szs_lines (s : ByteArray) : szs (linesB s) = s.size := by
 unfold linesB
 rw [szs_ba, lns_flat, Lib.size_eq]
theorem szs_pre {s : ByteArray} {xs rest : List ByteArray} (h : linesB s = xs ++ rest) : szs xs ≤ s.size := by
 rw [← szs_lines, h]
 simp [szs]
theorem le_szs {xs : List ByteArray} {x : ByteArray} (h : x ∈ xs) : x.size ≤ szs xs := by
 induction xs with
 | nil => cases h
 | cons g l ih =>
  rcases List.mem_cons.1 h with rfl | h
  ·simp [szs]
  ·have := ih h
   simp only [szs, List.map_cons, List.sum_cons] at this ⊢
   omega
inductive Tg
 | fn (a b : Int)
 | ins (i : Ins)
 | int (n : Int)
 | text (x : ByteArray)
abbrev St := List Pr × List Int × List ByteArray
def tgL : Tg → List UInt8
 | .fn a b => fnL a b
 | .ins i => insLl i
 | .int n => intLl n
 | .text x => textLl x.data.toList
def lineT (t : Tg) : ByteArray := ba (tgL t ++ [10])
def insP (i : Ins) : List Pr → List Pr
 | [] => []
 | [f] => [⟨f.pa, f.rg, f.cd ++ [i]⟩]
 | f :: g :: l => f :: insP i (g :: l)
theorem insP_snoc (i : Ins) (ps : List Pr) (f : Pr) : insP i (ps ++ [f]) = ps ++ [⟨f.pa, f.rg, f.cd ++ [i]⟩] := by
 induction ps with
 | nil => rfl
 | cons g l ih => cases l with
  | nil => rfl
  | cons g2 l => rw [List.cons_append, List.cons_append, insP, ← List.cons_append, ih]; rfl
def putT (s : St) : Tg → St
 | .fn a b => (s.1 ++ [⟨a, b, []⟩], s.2.1, s.2.2)
 | .ins i => (insP i s.1, s.2.1, s.2.2)
 | .int n => (s.1, s.2.1 ++ [n], s.2.2)
 | .text x => (s.1, s.2.1, s.2.2 ++ [x])
def okT (s : St) : Tg → Prop
 | .fn a b => i64 a ∧ i64 b
 | .ins i => InsW i ∧ s.1 ≠ []
 | .int n => i64 n
 | .text _ => True
def Val : St → List Tg → Prop
 | _, [] => True
 | s, t :: l => okT s t ∧ Val (putT s t) l
theorem val_app (s : St) (l m : List Tg) : Val s (l ++ m) ↔ Val s l ∧ Val (l.foldl putT s) m := by
 induction l generalizing s with
 | nil => simp [Val]
 | cons t l ih => simp [Val, ih, and_assoc]
theorem runs_tags {xs : List ByteArray} {ok : Bool} {ps : List Pr} {is : List Int} {ts : List ByteArray} (h : Runs xs ok ps is ts) : ∀ l : List Tg, xs = l.map lineT → Val ([], [], []) l → ok = true ∧ (ps, is, ts) = l.foldl putT ([], [], []) := by
 induction h with
 | nil =>
  intro l hl _
  have : l = [] := by simpa using hl.symm
  subst this
  exact ⟨rfl, rfl⟩
 | @hit xs x ps ps' is is' ts ts' ok h h1 h2 ih =>
  intro l hl hv
  obtain ⟨l', t, rfl⟩ : ∃ l' t, l = l' ++ [t] := by
   rcases List.eq_nil_or_concat l with rfl | ⟨l', t, rfl⟩
   ·simp at hl
   ·exact ⟨l', t, by simp⟩
  rw [List.map_append, List.map_singleton] at hl
  obtain ⟨e1, e2⟩ := List.append_inj' hl rfl
  injection e2 with e2
  rw [val_app] at hv
  obtain ⟨_, h3⟩ := ih l' e1 hv.1
  have hv2 := hv.2.1
  rw [← h3] at hv2
  rw [List.foldl_append, ← h3]
  have hc : chop x = ba (tgL t) := by rw [e2]; exact chop_ba _
  cases t with
  | fn a b =>
   obtain ⟨r1, rfl, rfl, rfl⟩ := h2.fn a b hv2.1 hv2.2 hc
   exact ⟨r1, rfl⟩
  | int n =>
   obtain ⟨r1, rfl, rfl, rfl⟩ := h2.int n hv2 hc
   exact ⟨r1, rfl⟩
  | text y =>
   obtain ⟨r1, rfl, rfl, rfl⟩ := h2.text y hc
   exact ⟨r1, rfl⟩
  | ins i =>
   obtain ⟨ps0, f, rfl⟩ : ∃ ps0 f, ps = ps0 ++ [f] := by
    rcases List.eq_nil_or_concat ps with rfl | ⟨l', t, rfl⟩
    ·exact absurd rfl hv2.2
    ·exact ⟨l', t, by simp⟩
   obtain ⟨r1, rfl, rfl, rfl⟩ := h2.ins i ps0 f rfl hv2.1 hc
   exact ⟨r1, by simp [putT, insP_snoc]⟩
 | @miss xs x ps is ts h h1 ih =>
  intro l hl hv
  obtain ⟨l', t, rfl⟩ : ∃ l' t, l = l' ++ [t] := by
   rcases List.eq_nil_or_concat l with rfl | ⟨l', t, rfl⟩
   ·simp at hl
   ·exact ⟨l', t, by simp⟩
  rw [List.map_append, List.map_singleton] at hl
  obtain ⟨e1, e2⟩ := List.append_inj' hl rfl
  injection e2 with e2
  rw [e2] at h1
  exact absurd ((ends_ba _).symm.trans h1) (by decide)
def tagsF (f : Pr) : List Tg := .fn f.pa f.rg :: f.cd.map .ins
def tagsP (p : Pf) : List Tg := p.ps.flatMap tagsF ++ (p.is.map .int ++ p.ts.map .text)
theorem fold_ins (cd : List Ins) : ∀ (A : List Pr) (a b : Int) (c0 : List Ins) (is : List Int) (ts : List ByteArray), (cd.map Tg.ins).foldl putT (A ++ [⟨a, b, c0⟩], is, ts) = (A ++ [⟨a, b, c0 ++ cd⟩], is, ts) := by
 induction cd with
 | nil => intro A a b c0 is ts; simp
 | cons i cd ih =>
  intro A a b c0 is ts
  simp only [List.map_cons, List.foldl_cons]
  show (cd.map Tg.ins).foldl putT (insP i (A ++ [⟨a, b, c0⟩]), is, ts) = _
  rw [insP_snoc, ih]
  simp
theorem fold_f (f : Pr) (A : List Pr) (is : List Int) (ts : List ByteArray) : (tagsF f).foldl putT (A, is, ts) = (A ++ [f], is, ts) := by
 show (f.cd.map Tg.ins).foldl putT (A ++ [⟨f.pa, f.rg, []⟩], is, ts) = _
 rw [fold_ins]; rfl
theorem fold_ps (ps : List Pr) : ∀ (A : List Pr) (is : List Int) (ts : List ByteArray), (ps.flatMap tagsF).foldl putT (A, is, ts) = (A ++ ps, is, ts) := by
 induction ps with
 | nil => intro A is ts; simp
 | cons f ps ih =>
  intro A is ts
  rw [List.flatMap_cons, List.foldl_append, fold_f, ih]
  simp
theorem fold_is (l : List Int) : ∀ (ps : List Pr) (is : List Int) (ts : List ByteArray), (l.map Tg.int).foldl putT (ps, is, ts) = (ps, is ++ l, ts) := by
 induction l with
 | nil => intro ps is ts; simp
 | cons n l ih => intro ps is ts; simp only [List.map_cons, List.foldl_cons]; show (l.map Tg.int).foldl putT (ps, is ++ [n], ts) = _; rw [ih]; simp
theorem fold_ts (l : List ByteArray) : ∀ (ps : List Pr) (is : List Int) (ts : List ByteArray), (l.map Tg.text).foldl putT (ps, is, ts) = (ps, is, ts ++ l) := by
 induction l with
 | nil => intro ps is ts; simp
 | cons n l ih => intro ps is ts; simp only [List.map_cons, List.foldl_cons]; show (l.map Tg.text).foldl putT (ps, is, ts ++ [n]) = _; rw [ih]; simp
theorem fold_tags (p : Pf) : (tagsP p).foldl putT ([], [], []) = (p.ps, p.is, p.ts) := by
 unfold tagsP
 rw [List.foldl_append, List.foldl_append, fold_ps, fold_is, fold_ts]
 simp
theorem val_ins (cd : List Ins) (hw : ∀ i ∈ cd, InsW i) : ∀ (A : List Pr) (a b : Int) (c0 : List Ins) (is : List Int) (ts : List ByteArray), Val (A ++ [⟨a, b, c0⟩], is, ts) (cd.map Tg.ins) := by
 induction cd with
 | nil => intro A a b c0 is ts; trivial
 | cons i cd ih =>
  intro A a b c0 is ts
  refine ⟨⟨hw i (List.mem_cons_self ..), by simp⟩, ?_⟩
  show Val (insP i (A ++ [⟨a, b, c0⟩]), is, ts) _
  rw [insP_snoc]
  exact ih (fun j hj => hw j (List.mem_cons_of_mem _ hj)) _ _ _ _ _ _
theorem val_ps (ps : List Pr) (hw : ∀ f ∈ ps, PrW f) : ∀ (A : List Pr) (is : List Int) (ts : List ByteArray), Val (A, is, ts) (ps.flatMap tagsF) := by
 induction ps with
 | nil => intro A is ts; trivial
 | cons f ps ih =>
  intro A is ts
  rw [List.flatMap_cons, val_app, fold_f]
  have h := hw f (List.mem_cons_self ..)
  exact ⟨⟨⟨h.pa, h.rg⟩, val_ins f.cd h.cd _ _ _ _ _ _⟩, ih (fun g hg => hw g (List.mem_cons_of_mem _ hg)) _ _ _⟩
theorem val_is (l : List Int) (hw : ∀ n ∈ l, i64 n) : ∀ s : St, Val s (l.map Tg.int) := by
 induction l with
 | nil => intro s; trivial
 | cons n l ih => intro s; exact ⟨hw n (List.mem_cons_self ..), ih (fun g hg => hw g (List.mem_cons_of_mem _ hg)) _⟩
theorem val_ts (l : List ByteArray) : ∀ s : St, Val s (l.map Tg.text) := by
 induction l with
 | nil => intro s; trivial
 | cons n l ih => intro s; exact ⟨trivial, ih _⟩
theorem val_tags (p : Pf) (hw : ∀ f ∈ p.ps, PrW f) (h64 : ∀ n ∈ p.is, i64 n) : Val ([], [], []) (tagsP p) := by
 unfold tagsP
 rw [val_app, val_app]
 exact ⟨val_ps _ hw _ _ _, val_is _ h64 _, val_ts _ _⟩
structure Less (s t : St) : Prop where
 np : s.1.length ≤ t.1.length
 tot : totC s.1 ≤ totC t.1
 ni : s.2.1.length ≤ t.2.1.length
 nt : s.2.2.length ≤ t.2.2.length
 tx : ∀ x ∈ s.2.2, x ∈ t.2.2
theorem Less.trans {a b c : St} (h : Less a b) (k : Less b c) : Less a c := ⟨Nat.le_trans h.np k.np, Nat.le_trans h.tot k.tot, Nat.le_trans h.ni k.ni, Nat.le_trans h.nt k.nt, fun x hx => k.tx x (h.tx x hx)⟩
theorem less_put (s : St) (t : Tg) : Less s (putT s t) := by
 obtain ⟨ps, is, ts⟩ := s
 cases t with
 | fn a b => exact ⟨by simp [putT], by simp only [putT]; rw [totC_snoc]; omega, by simp [putT], by simp [putT], fun x hx => hx⟩
 | int n => exact ⟨by simp [putT], by simp [putT], by simp [putT], by simp [putT], fun x hx => hx⟩
 | text y => exact ⟨by simp [putT], by simp [putT], by simp [putT], by simp [putT], fun x hx => by simp only [putT]; exact List.mem_append_left _ hx⟩
 | ins i =>
  rcases List.eq_nil_or_concat ps with rfl | ⟨l', f, rfl⟩
  ·exact ⟨by simp [putT, insP], by simp [putT, insP], by simp [putT], by simp [putT], fun x hx => hx⟩
  ·rw [show l'.concat f = l' ++ [f] by simp]
   refine ⟨?_, ?_, by simp [putT], by simp [putT], fun x hx => hx⟩
   ·simp [putT, insP_snoc]
   ·simp only [putT, insP_snoc]; rw [totC_snoc, totC_snoc]; simp
theorem less_fold (l : List Tg) : ∀ s : St, Less s (l.foldl putT s) := by
 induction l with
 | nil => intro s; exact ⟨Nat.le_refl _, Nat.le_refl _, Nat.le_refl _, Nat.le_refl _, fun x hx => hx⟩
 | cons t l ih => intro s; exact (less_put s t).trans (ih _)
end Go.Proofs.YtfjipoijbmmjcaaGreatDoor
namespace Go.Proofs.YtfjipoijbmmjcaaGreatDoor
open Go.RowKit
set_option linter.unusedVariables false
set_option linter.unusedSimpArgs false

theorem lns_all (L : List (List UInt8)) (h : ∀ l ∈ L, (10 : UInt8) ∉ l) : lns (L.flatMap fun l => l ++ [10]) = L.map fun l => l ++ [10] := by
 induction L with
 | nil => rfl
 | cons l L ih =>
  rw [List.flatMap_cons, List.append_assoc, List.singleton_append, lns_hit _ _ (h l (List.mem_cons_self ..)), ih (fun m hm => h m (List.mem_cons_of_mem _ hm))]
  rfl
theorem itoa_nl (n : Int) : (10 : UInt8) ∉ Lib.itoa n := by
 intro h
 unfold Lib.itoa at h
 split at h
 ·rcases List.mem_cons.1 h with h | h
  ·exact absurd h (by decide)
  ·have := dec_digs _ _ h
   exact absurd this.1 (by decide)
 ·have := dec_digs _ _ h
  exact absurd this.1 (by decide)
theorem hd_nl (n : Nat) : hd n ≠ 10 := by
 rcases Nat.lt_or_ge n 16 with h | h
 ·have hall : ∀ k : Fin 16, hd k.val ≠ 10 := by decide +kernel
  exact hall ⟨n, h⟩
 ·unfold hd
  rw [List.getD_eq_getElem?_getD, List.getElem?_eq_none (by simpa [hexT] using h)]
  decide
theorem hexS_nl (l : List UInt8) : (10 : UInt8) ∉ hexS l := by
 unfold hexS
 split
 ·decide
 ·intro h
  unfold hexL at h
  rw [List.mem_flatMap] at h
  obtain ⟨b, _, hb⟩ := h
  simp only [List.mem_cons, List.not_mem_nil, or_false] at hb
  rcases hb with hb | hb
  ·exact hd_nl _ hb.symm
  ·exact hd_nl _ hb.symm
theorem tgL_nl (t : Tg) : (10 : UInt8) ∉ tgL t := by
 cases t with
 | fn a b => simp only [tgL, fnL, List.mem_append, List.mem_cons, not_or]; exact ⟨by decide, by decide, itoa_nl a, by decide, itoa_nl b⟩
 | int n => simp only [tgL, intLl, List.mem_append, List.mem_cons, not_or]; exact ⟨by decide, by decide, itoa_nl n⟩
 | text x => simp only [tgL, textLl, List.mem_append, List.mem_cons, not_or]; exact ⟨by decide, by decide, hexS_nl _⟩
 | ins i => simp only [tgL, insLl, List.mem_append, List.mem_cons, not_or]; exact ⟨itoa_nl _, by decide, itoa_nl _, by decide, itoa_nl _, by decide, itoa_nl _⟩
theorem intL_eq (n : Int) : intL n = intLl n ++ [10] := by
 unfold intL intLl sInt sNl itS
 simp
theorem textL_eq (x : ByteArray) : textL x = textLl x.data.toList ++ [10] := by
 unfold textL textLl sText sNl
 simp
theorem insL_eq (i : Ins) : insL i = insLl i ++ [10] := by
 unfold insL insLl lineS lineX joinL
 simp [Lib.join, itS]
theorem headL_eq (f : Pr) : headL f = fnL f.pa f.rg ++ [10] := by
 unfold headL fnL lineS lineX joinL sFunc
 simp [Lib.join, itS]
theorem listL_tags (p : Pf) : listL p = ((tagsP p).map tgL).flatMap fun l => l ++ [10] := by
 unfold listL tagsP
 rw [List.map_append, List.map_append, List.flatMap_append, List.flatMap_append, List.append_assoc]
 congr 1
 ·induction p.ps with
  | nil => rfl
  | cons f ps ih =>
   rw [List.flatMap_cons, List.flatMap_cons, List.map_append, List.flatMap_append, ← ih]
   congr 1
   unfold protoL tagsF
   rw [List.map_cons, List.flatMap_cons, headL_eq]
   congr 1
   rw [List.map_map, List.flatMap_map]
   congr 1
   funext i
   exact insL_eq i
 ·congr 1
  ·rw [List.map_map, List.flatMap_map]
   exact congrArg (fun k => p.is.flatMap k) (funext fun n => intL_eq n)
  ·rw [List.map_map, List.flatMap_map]
   exact congrArg (fun k => p.ts.flatMap k) (funext fun n => textL_eq n)
theorem lines_list (p : Pf) (s : ByteArray) (h : s.data.toList = listL p) : linesB s = (tagsP p).map lineT := by
 unfold linesB
 rw [h, listL_tags, lns_all _ (by
  intro l hl
  rw [List.mem_map] at hl
  obtain ⟨t, _, rfl⟩ := hl
  exact tgL_nl t), List.map_map, List.map_map]
 rfl
structure Bd (ps : List Pr) (is : List Int) (ts : List ByteArray) : Prop where
 few : Few (pgOf ⟨ps, is, ts⟩)
 pr : ∀ f ∈ ps, PrW f
 is : ∀ n ∈ is, i64 n
 ts : ∀ t ∈ ts, t.size ≤ 1048576
structure Fits (s : ByteArray) : Prop where
 size : s.size ≤ 4611686018427387904
 line : ∀ x ∈ linesB s, x.size ≤ 4194304
 bd : ∀ xs rest ok ps is ts, linesB s = xs ++ rest → Runs xs ok ps is ts → Bd ps is ts
theorem fits_short (s : ByteArray) (h : s.size ≤ 3000) : Fits s := by
 refine ⟨by omega, fun x hx => ?_, fun xs rest ok ps is ts hx hr => ?_⟩
 ·have := le_szs hx
  rw [szs_lines] at this
  omega
 ·have h1 := szs_pre hx
  have h2 := runs_wf hr
  have h3 := runs_wgt hr
  have h4 : wgt ps is ts ≤ 751 := by
   cases ok
   ·simp only [Bool.false_eq_true, if_false] at h3; omega
   ·simp only [if_true] at h3; omega
  unfold wgt at h4
  refine ⟨⟨by show ps.length ≤ _; omega, fun f hf => ?_, by show is.length ≤ _; omega, by show ts.length ≤ _; omega, ?_⟩, h2.pr, h2.is, fun t ht => ?_⟩
  ·have := cd_le (ps := ps) hf; omega
  ·show cntTo ps ps.length ≤ _
   rw [cnt_tot]; omega
  ·have := h2.ts t ht; omega
theorem runs_list (p : Pf) (s : ByteArray) (h : s.data.toList = listL p) (hw : ∀ f ∈ p.ps, PrW f) (h64 : ∀ n ∈ p.is, i64 n) {xs rest : List ByteArray} {ok : Bool} {ps : List Pr} {is : List Int} {ts : List ByteArray}
  (hx : linesB s = xs ++ rest) (hr : Runs xs ok ps is ts) : ok = true ∧ Less (ps, is, ts) (p.ps, p.is, p.ts) ∧ (rest = [] → ps = p.ps ∧ is = p.is ∧ ts = p.ts) := by
 have hl := lines_list p s h
 rw [hx] at hl
 have hv := val_tags p hw h64
 have e1 : xs = ((tagsP p).take xs.length).map lineT := by
  rw [List.map_take, ← hl, List.take_left']
  rfl
 rw [← List.take_append_drop xs.length (tagsP p), val_app] at hv
 obtain ⟨h1, h2⟩ := runs_tags hr _ e1 hv.1
 refine ⟨h1, ?_, fun h3 => ?_⟩
 ·rw [h2, ← fold_tags p]
  have := less_fold ((tagsP p).drop xs.length) (((tagsP p).take xs.length).foldl putT ([], [], []))
  rwa [← List.foldl_append, List.take_append_drop] at this
 ·subst h3
  rw [List.append_nil] at hl
  have h4 : xs.length = (tagsP p).length := by rw [hl, List.length_map]
  rw [h4, List.take_length, fold_tags] at h2
  simp only [Prod.mk.injEq] at h2
  exact h2
theorem tgL_len (t : Tg) (ht : match t with | .fn a b => i64 a ∧ i64 b | .ins i => InsW i | .int n => i64 n | .text x => x.size ≤ 1048576) : (tgL t).length ≤ 2097170 := by
 have h : ∀ n, i64 n → (Lib.itoa n).length ≤ 21 := fun n hn => by simpa [itS] using its_len hn
 cases t with
 | fn a b => have h1 := h a ht.1; have h2 := h b ht.2; simp only [tgL, fnL, List.length_append, List.length_cons, List.length_nil]; omega
 | int n => have h1 := h n ht; simp only [tgL, intLl, List.length_append, List.length_cons, List.length_nil]; omega
 | text x =>
  have h1 := hexS_len x.data.toList
  have h2 : x.data.toList.length = x.size := (Lib.size_eq x).symm
  have h3 : x.size ≤ 1048576 := ht
  simp only [tgL, textLl, List.length_append, List.length_cons, List.length_nil]; omega
 | ins i => have h1 := h _ ht.op; have h2 := h _ ht.a; have h3 := h _ ht.b; have h4 := h _ ht.c; simp only [tgL, insLl, List.length_append, List.length_cons, List.length_nil]; omega
theorem szs_le {xs : List ByteArray} {m : Nat} (h : ∀ x ∈ xs, x.size ≤ m) : szs xs ≤ xs.length * m := by
 induction xs with
 | nil => simp [szs]
 | cons g l ih =>
  have h1 := h g (List.mem_cons_self ..)
  have h2 := ih fun x hx => h x (List.mem_cons_of_mem _ hx)
  have e : szs (g :: l) = g.size + szs l := by simp [szs]
  rw [e, List.length_cons, Nat.succ_mul]
  omega
theorem tags_len (p : Pf) : (tagsP p).length = wgt p.ps p.is p.ts := by
 have h : ∀ ps : List Pr, (ps.flatMap tagsF).length = ps.length + totC ps := by
  intro ps
  induction ps with
  | nil => rfl
  | cons f ps ih =>
   rw [List.flatMap_cons, List.length_append, ih]
   simp only [tagsF, List.length_cons, List.length_map, totC, List.map_cons, List.sum_cons]
   omega
 unfold tagsP wgt
 rw [List.length_append, List.length_append, h, List.length_map, List.length_map]
 omega
theorem totC_le {ps : List Pr} {m : Nat} (h : ∀ f ∈ ps, f.cd.length ≤ m) : totC ps ≤ ps.length * m := by
 induction ps with
 | nil => simp [totC]
 | cons g l ih =>
  have h1 := h g (List.mem_cons_self ..)
  have h2 := ih fun x hx => h x (List.mem_cons_of_mem _ hx)
  have e : totC (g :: l) = g.cd.length + totC l := by simp [totC]
  rw [e, List.length_cons, Nat.succ_mul]
  omega
theorem fits_list (p : Pf) (s : ByteArray) (h : s.data.toList = listL p) (hw : ∀ f ∈ p.ps, PrW f) (h64 : ∀ n ∈ p.is, i64 n) (hz : ∀ t ∈ p.ts, t.size ≤ 1048576) (hn : NotLarge (pgOf p)) : Fits s := by
 have htot : totC p.ps ≤ 1000 := Nat.le_trans (totC_le (m := 100) hn.nc) (by have h0 : p.ps.length ≤ 10 := hn.np; omega)
 have hnp : p.ps.length ≤ 10 := hn.np
 have hni : p.is.length ≤ 60 := hn.ni
 have hnt : p.ts.length ≤ 60 := hn.nt
 have hl := lines_list p s h
 have hline : ∀ x ∈ linesB s, x.size ≤ 2097171 := by
  intro x hx
  rw [hl, List.mem_map] at hx
  obtain ⟨t, ht, rfl⟩ := hx
  have e : (lineT t).size = (tgL t).length + 1 := by show (tgL t ++ [10]).toArray.size = _; simp
  rw [e]
  have : (tgL t).length ≤ 2097170 := by
   apply tgL_len
   unfold tagsP at ht
   rw [List.mem_append, List.mem_append, List.mem_flatMap, List.mem_map, List.mem_map] at ht
   rcases ht with ⟨f, hf, ht⟩ | ⟨n, hn, rfl⟩ | ⟨y, hy, rfl⟩
   ·unfold tagsF at ht
    rcases List.mem_cons.1 ht with rfl | ht
    ·exact ⟨(hw f hf).pa, (hw f hf).rg⟩
    ·rw [List.mem_map] at ht
     obtain ⟨i, hi, rfl⟩ := ht
     exact (hw f hf).cd i hi
   ·exact h64 n hn
   ·exact hz y hy
  omega
 refine ⟨?_, fun x hx => by have := hline x hx; omega, fun xs rest ok ps is ts hx hr => ?_⟩
 ·rw [← szs_lines]
  refine Nat.le_trans (szs_le hline) ?_
  have : (linesB s).length ≤ 2000 := by rw [hl, List.length_map, tags_len]; unfold wgt; omega
  have := Nat.mul_le_mul_right 2097171 this
  omega
 ·obtain ⟨_, hls, _⟩ := runs_list p s h hw h64 hx hr
  have h2 := runs_wf hr
  have h3 := hls.np
  have h4 := hls.tot
  have h5 := hls.ni
  have h6 := hls.nt
  simp only at h3 h4 h5 h6
  refine ⟨⟨by show ps.length ≤ _; omega, fun f hf => ?_, by show is.length ≤ _; omega, by show ts.length ≤ _; omega, ?_⟩, h2.pr, h2.is, fun t ht => hz t (hls.tx t ht)⟩
  ·have := cd_le (ps := ps) hf; omega
  ·show cntTo ps ps.length ≤ _
   rw [cnt_tot]; omega
end Go.Proofs.YtfjipoijbmmjcaaGreatDoor
namespace Go.Proofs.YtfjipoijbmmjcaaGreatDoor
open Go.RowKit
set_option linter.unusedVariables false
set_option linter.unusedSimpArgs false

section
variable {w w' : World} {B n m s : Nat} {e : TypeId} {v : Value} {xs : List Value}
theorem row_at (h : w.ownsRow B e s v n xs) : ∃ q c, v = .slice q n c ∧ (0 < n → ∃ g, q = some ⟨g, 0, none⟩ ∧ ∀ j u, xs[j]? = some u → w.cell? ⟨g, 0 + j, none⟩ = some u) := by
 have h' := h
 rcases h.2 with ⟨rfl, rfl⟩ | ⟨g, cap, cur, rfl, _⟩
 ·exact ⟨none, 0, rfl, fun h => absurd h (Nat.lt_irrefl _)⟩
 ·exact ⟨_, cap, rfl, fun _ => ⟨g, rfl, fun j u hj => by
   have := World.ownsRow.cells h' (g := g) rfl j u hj
   rwa [add_off] at this⟩⟩
theorem row_keep (h : w.ownsRow B e s v n xs) (hk : ∀ k cur t, B ≤ k → w.heap[k]? = some (Obj.cells cur t (0, 0)) → w'.heap[k]? = some (Obj.cells cur t (0, 0))) : w'.ownsRow B e s v n xs := by
 refine ⟨h.1, h.2.imp id ?_⟩
 rintro ⟨g, cap, cur, rfl, hB, hb, h3⟩
 exact ⟨g, cap, cur, rfl, hB, hk g cur e hB hb, h3⟩
end
theorem fm_get {α : Type} (f : α → List Value) (m : Nat) (hf : ∀ a, (f a).length = m) : ∀ (l : List α) (i r : Nat) (hi : i < l.length), r < m → (l.flatMap f)[i * m + r]? = (f l[i])[r]?
 | [], i, r, hi, _ => by simp at hi
 | a :: l, 0, r, hi, hr => by
  rw [List.flatMap_cons, Nat.zero_mul, Nat.zero_add, List.getElem?_append_left (by rw [hf]; exact hr)]
  rfl
 | a :: l, i + 1, r, hi, hr => by
  rw [List.flatMap_cons, List.getElem?_append_right (by rw [hf, Nat.succ_mul]; omega), hf]
  have e : (i + 1) * m + r - m = i * m + r := by rw [Nat.succ_mul]; omega
  rw [e, fm_get f m hf l i r (by simpa using hi) hr]
  rfl
section
variable {w w' : World} {B g : Nat} {cs : List (Pr × Value)} {is : List Int} {ts : List ByteArray} {vp vi vt : Value}
theorem OwnPg.pf (h : OwnPg w B g cs is ts vp vi vt) (hb : Bd (cs.map (·.1)) is ts) : PfAt w vp vi vt ⟨cs.map (·.1), is, ts⟩ := by
 have hf := hb.few
 refine ⟨?_, ?_, ?_, ?_, ?_, ?_, ?_⟩
 ·obtain ⟨q, c, rfl, hx⟩ := row_at h.ps
  refine ⟨q, c, by simp, fun hl => ?_⟩
  obtain ⟨b, rfl, hx2⟩ := hx (by simpa using hl)
  refine ⟨b, 0, rfl, fun i hi => ?_⟩
  have hi' : i < cs.length := by simpa using hi
  have get := fun r hr => fm_get prC 3 (fun _ => rfl) cs i r hi' hr
  obtain ⟨pr, hpr⟩ : ∃ pr, (⟨cs.map (fun c => c.1), is, ts⟩ : Pf).ps[i]'hi = pr := ⟨_, rfl⟩
  have e1 : pr = cs[i].1 := by rw [← hpr]; simp
  rw [hpr, e1]
  refine ⟨?_, ?_, cs[i].2, ?_, ?_⟩
  ·exact hx2 (i * 3) _ (get 0 (by omega))
  ·exact hx2 (i * 3 + 1) _ (get 1 (by omega))
  ·exact hx2 (i * 3 + 2) _ (get 2 (by omega))
  ·obtain ⟨q, c, hq, hy⟩ := row_at (h.cd cs[i] (List.getElem_mem hi'))
   refine ⟨q, c, hq, fun hl => ?_⟩
   obtain ⟨b, rfl, hy2⟩ := hy hl
   refine ⟨b, 0, rfl, fun j hj => ?_⟩
   have get := fun r hr => fm_get insC 4 (fun _ => rfl) cs[i].1.cd j r hj hr
   exact ⟨hy2 (j * 4) _ (get 0 (by omega)), hy2 (j * 4 + 1) _ (get 1 (by omega)), hy2 (j * 4 + 2) _ (get 2 (by omega)), hy2 (j * 4 + 3) _ (get 3 (by omega))⟩
 ·obtain ⟨q, c, rfl, hx⟩ := row_at h.is
  refine ⟨q, c, rfl, fun hl => ?_⟩
  obtain ⟨b, rfl, hx2⟩ := hx hl
  exact ⟨b, 0, rfl, fun i hi => hx2 i _ (by simp [List.getElem?_eq_getElem hi])⟩
 ·obtain ⟨q, c, rfl, hx⟩ := row_at h.ts
  refine ⟨q, c, rfl, fun hl => ?_⟩
  obtain ⟨b, rfl, hx2⟩ := hx hl
  exact ⟨b, 0, rfl, fun i hi => hx2 i _ (by simp [List.getElem?_eq_getElem hi])⟩
 ·exact Nat.le_trans hf.np (by omega)
 ·exact Nat.le_trans hf.ni (by omega)
 ·exact Nat.le_trans hf.nt (by omega)
 ·exact fun f hm => Nat.le_trans (hf.nc f hm) (by omega)
theorem OwnPg.keep (h : OwnPg w B g cs is ts vp vi vt) (hk : ∀ k cur t, (B ≤ k ∨ k = g) → w.heap[k]? = some (Obj.cells cur t (0, 0)) → w'.heap[k]? = some (Obj.cells cur t (0, 0))) : OwnPg w' B g cs is ts vp vi vt :=
 ⟨hk g _ _ (.inr rfl) h.blk, row_keep h.ps fun k c t hB => hk k c t (.inl hB), row_keep h.is fun k c t hB => hk k c t (.inl hB), row_keep h.ts fun k c t hB => hk k c t (.inl hB), fun c hc => row_keep (h.cd c hc) fun k c t hB => hk k c t (.inl hB), h.dis⟩
end
structure RdA (w : World) (s : ByteArray) (ok : Bool) (xs : List ByteArray) (W : World) : Prop where
 ext : Ext w W
 res : Blk W w.heap.size 26 #[.slice none 0 0, .slice none 0 0, .slice none 0 0]
 fine : Blk W (w.heap.size + 2) 4 #[.bool ok]
 box : ∃ v, Blk W (w.heap.size + 3) 9 #[v]
 own : ∃ cs is ts vp vi vt, OwnPg W (w.heap.size + 4) (w.heap.size + 1) cs is ts vp vi vt ∧ Runs xs ok (cs.map (·.1)) is ts
 rest : ∃ rest, linesB s = xs ++ rest
section
variable {w W W' : World} {s : ByteArray} {ok : Bool} {xs : List ByteArray}
theorem RdA.size (h : RdA w s ok xs W) : w.heap.size + 4 ≤ W.heap.size := by
 obtain ⟨v, hv⟩ := h.box
 have := hv.lt
 omega
theorem RdA.keep (h : RdA w s ok xs W) (hx : Ext w W') (hb : ∃ v, Blk W' (w.heap.size + 3) 9 #[v]) (hk : ∀ k cur t, k ≠ w.heap.size + 3 → W.heap[k]? = some (Obj.cells cur t (0, 0)) → W'.heap[k]? = some (Obj.cells cur t (0, 0))) : RdA w s ok xs W' := by
 obtain ⟨cs, is, ts, vp, vi, vt, h1, h2⟩ := h.own
 exact ⟨hx, hk _ _ _ (by omega) h.res, hk _ _ _ (by omega) h.fine, hb, ⟨cs, is, ts, vp, vi, vt, h1.keep fun k c t hB => hk k c t (by omega), h2⟩, h.rest⟩
theorem RdA.other (h : RdA w s ok xs W) {row : Option Nat} (hg : W.grownBy W' row) (hr : ∀ r, row = some r → w.heap.size + 4 ≤ r ∧ ∃ o : Obj, W.heap[r]? = some o ∧ o.isCells = false) : RdA w s ok xs W' := by
 have hk : ∀ k cur t, W.heap[k]? = some (Obj.cells cur t (0, 0)) → W'.heap[k]? = some (Obj.cells cur t (0, 0)) := fun k cur t hb =>
  (hg.block k (Array.getElem?_eq_some_iff.1 hb).1 (fun e => by
   obtain ⟨_, o, ho, hc⟩ := hr k e.symm
   rw [hb] at ho; cases ho; cases hc)).trans hb
 obtain ⟨v, hv⟩ := h.box
 exact h.keep (h.ext.grown hg fun r e => by have := (hr r e).1; omega) ⟨v, hk _ _ _ hv⟩ fun k c t _ => hk k c t
theorem RdA.boxed (h : RdA w s ok xs W) (v : Value) : RdA w s ok xs (W.setCell ⟨w.heap.size + 3, 0, none⟩ v) := by
 obtain ⟨u, hu⟩ := h.box
 exact h.keep (h.ext.setCell (p := ⟨w.heap.size + 3, 0, none⟩) (by simp) v) ⟨v, hu.set_ 0 v⟩ fun k c t hk hb => (heap_setCell_other W ⟨w.heap.size + 3, 0, none⟩ k v hk).trans hb
theorem RdA.hit {cs cs' : List (Pr × Value)} {is is' : List Int} {ts ts' : List ByteArray} {vp' vi' vt' : Value} {x : ByteArray} {ok' : Bool} (h : RdA w s true xs W) (hr : Runs xs true (cs.map (·.1)) is ts)
  (ho : OwnPg W' (w.heap.size + 4) (w.heap.size + 1) cs' is' ts' vp' vi' vt') (ht : Turn (w.heap.size + 4) (w.heap.size + 1) W W') (ha : AddR (chop x) (cs.map (·.1)) (cs'.map (·.1)) is is' ts ts' ok') (hx : endsNl x = true) (hR : RLn s xs x) :
  RdA w s ok' (xs ++ [x]) (W'.setCell ⟨w.heap.size + 2, 0, none⟩ (.bool ok')) := by
 have hs := h.size
 obtain ⟨v, hv⟩ := h.box
 obtain ⟨rest, hrest⟩ := hR
 have low := fun k (hk : k < w.heap.size + 4) (hn : k ≠ w.heap.size + 1) => ht.low k (by omega) hk hn
 have far := fun k (hk : k ≠ w.heap.size + 2) => heap_setCell_other W' ⟨w.heap.size + 2, 0, none⟩ k (.bool ok') hk
 refine ⟨?_, ?_, ?_, ⟨v, ?_⟩, ⟨cs', is', ts', vp', vi', vt', ho.keep fun k c t hB hb => (far k (by omega)).trans hb, .hit hr hx ha⟩, ⟨rest, by rw [hrest]; simp⟩⟩
 ·exact (ht.ext h.ext (by omega) (by omega)).setCell (p := ⟨w.heap.size + 2, 0, none⟩) (by simp) _
 ·exact (far _ (by omega)).trans ((low _ (by omega) (by omega)).trans h.res)
 ·have h2 : Blk W' (w.heap.size + 2) 4 #[.bool true] := (low _ (by omega) (by omega)).trans h.fine
  exact h2.set_ 0 (.bool ok')
 ·exact (far _ (by omega)).trans ((low _ (by omega) (by omega)).trans hv)
theorem RdA.miss {x : ByteArray} (h : RdA w s true xs W) (hx : endsNl x = false) (hR : RLn s xs x) : RdA w s false (xs ++ [x]) (W.setCell ⟨w.heap.size + 2, 0, none⟩ (.bool false)) := by
 obtain ⟨cs, is, ts, vp, vi, vt, h1, h2⟩ := h.own
 obtain ⟨v, hv⟩ := h.box
 obtain ⟨rest, hrest⟩ := hR
 have far := fun k (hk : k ≠ w.heap.size + 2) => heap_setCell_other W ⟨w.heap.size + 2, 0, none⟩ k (.bool false) hk
 exact ⟨h.ext.setCell (p := ⟨w.heap.size + 2, 0, none⟩) (by simp) _, (far _ (by omega)).trans h.res, h.fine.set_ 0 (.bool false), ⟨v, (far _ (by omega)).trans hv⟩,
  ⟨cs, is, ts, vp, vi, vt, h1.keep fun k c t hB hb => (far k (by omega)).trans hb, .miss h2 hx⟩, ⟨rest, by rw [hrest]; simp⟩⟩
theorem turn_kp {b : Bool} (h : RdA w s ok xs W) (ht : Turn (w.heap.size + 4) (w.heap.size + 1) W W') : KpB w.heap.size (w.heap.size + 3) W (W'.setCell ⟨w.heap.size + 2, 0, none⟩ (.bool b)) := by
 have hs := h.size
 refine ⟨⟨ht.os, ht.tape, ht.output, by rw [World.size_setCell]; exact ht.size, fun k hk => ?_⟩, ?_⟩
 ·exact (heap_setCell_other W' ⟨w.heap.size + 2, 0, none⟩ k _ (by show k ≠ w.heap.size + 2; omega)).trans (ht.low k (by omega) (by omega) (by omega))
 ·exact (heap_setCell_other W' ⟨w.heap.size + 2, 0, none⟩ _ _ (by show w.heap.size + 3 ≠ w.heap.size + 2; omega)).trans (ht.low _ (by omega) (by omega) (by omega))
theorem turn_keeps {b : Bool} (D : Nat) (ht : Turn (w.heap.size + 4) (w.heap.size + 1) W W') : KeepsFrom D W (W'.setCell ⟨w.heap.size + 2, 0, none⟩ (.bool b)) := (ht.oth.trans (KeepsOthers.setCell _ _ _)).from _
end
end Go.Proofs.YtfjipoijbmmjcaaGreatDoor
