/- Words: the words of a text one by one, as the program goes over them. -/
import Derived.Test.YthknpnhiijbgfaaDoorWdK
import Derived.Test.YthknpnhiijbgfaaDoorRng
import Derived.Shelf.Abstract
import Derived.Shelf.RegionOpen
import Derived.WalkKit
import Derived.OwnWalkIn
import Derived.TacticsInMore
import Derived.LoopNIn
import Derived.LoopIn
namespace Go.Proofs.YthknpnhiijbgfaaDoor
open Go.RowKit Go.Shelf
set_option linter.unusedVariables false
set_option linter.unusedSimpArgs false
attribute [local go_sem] Oper.semAt_some

/-- The words, each with how many bytes it has; the last one may be none. -/
def itemsP (at_ : Nat) (l : List UInt8) : List (Wd × Nat) :=
  if h : l = [] then [] else
    match wordP l with
    | none => [(⟨0, [], 0, at_⟩, 0)]
    | some (w, n) => ({ w with a := at_ }, n) :: itemsP (at_ + (n - 1 + 1) + blankS false (l.drop (n - 1 + 1))) (l.drop (n - 1 + 1 + blankS false (l.drop (n - 1 + 1))))
termination_by l.length
decreasing_by
  have : 0 < l.length := List.length_pos_iff.2 h
  simp only [List.length_drop]
  omega
theorem items_nil (a : Nat) : itemsP a [] = [] := by rw [itemsP]; simp
theorem items_none {a : Nat} {l : List UInt8} (hl : l ≠ []) (h : wordP l = none) : itemsP a l = [(⟨0, [], 0, a⟩, 0)] := by rw [itemsP, dif_neg hl, h]
theorem items_some {a : Nat} {l : List UInt8} {w : Wd} {n : Nat} (hl : l ≠ []) (h : wordP l = some (w, n)) (hn : 1 ≤ n) :
    itemsP a l = ({ w with a := a }, n) :: itemsP (a + n + blankS false (l.drop n)) (l.drop (n + blankS false (l.drop n))) := by
  rw [itemsP, dif_neg hl, h]
  simp only [show n - 1 + 1 = n by omega]
theorem blank_len : ∀ (b : Bool) (l : List UInt8), blankS b l ≤ l.length
  | true, [] => by simp [blankS]
  | false, [] => by simp [blankS]
  | true, c :: l => by
    have h1 := blank_len true l
    have h2 := blank_len false l
    simp only [blankS, List.length_cons]
    split <;> omega
  | false, c :: l => by
    have h1 := blank_len true l
    have h2 := blank_len false l
    simp only [blankS, List.length_cons]
    split
    · omega
    · split <;> omega
theorem blank_le (l : List UInt8) : blankS false l ≤ l.length := blank_len false l
def RItem (items pre : List (Wd × Nat)) (x : Wd × Nat) : Prop := ∃ tail, items = pre ++ x :: tail
def encW (x : Wd × Nat) : Array Value := #[x.1.v, .int .i64 (x.2 : Int)]
theorem Laid.below {w w' : World} {B : Nat} (h : Laid w) (hb : Below B w w') (hB : 0 < B ∧ 4 < B ∧ 6 < B ∧ 7 < B) : Laid w' :=
  ⟨h.asc.of_same (hb.block _ hB.1), h.pow.of_same (hb.block _ hB.2.1),
    let ⟨a, b, c⟩ := h.syn; ⟨a, b, (hb.cell (p := ⟨6, 0, none⟩) hB.2.2.1).trans c⟩, let ⟨a, b, c⟩ := h.rng; ⟨a, b, (hb.cell (p := ⟨7, 0, none⟩) hB.2.2.2).trans c⟩⟩
theorem cell_below {w : World} {b o : Nat} {v : Value} (h : w.cell? ⟨b, o, none⟩ = some v) : b < w.heap.size := by
  rcases Nat.lt_or_ge b w.heap.size with h1 | h1
  · exact h1
  · simp [World.cell?, Array.getElem?_eq_none h1] at h
theorem Laid.low {w : World} (h : Laid w) : 0 < w.heap.size ∧ 4 < w.heap.size ∧ 6 < w.heap.size ∧ 7 < w.heap.size :=
  ⟨h.asc.lt, h.pow.lt, let ⟨_, _, c⟩ := h.syn; cell_below c, let ⟨_, _, c⟩ := h.rng; cell_below c⟩
theorem Ext.grownBy {a b : World} (h : Ext a b) : a.grownBy b none := ⟨h.os, h.tape, h.output, h.size, fun k hk _ => h.block k hk⟩
theorem all_in (n : Nat) (s : ByteArray) (w : World) :
    CallsIn Fence.wide n Tryd.prog 21 #[.string s] w fun e w' => e = .returned (.func (.func 43) #[] #[.pointer (some ⟨w.heap.size, 0, none⟩)]) ∧ w.alloc (.cells #[.string s] 9) = w' := by
  refine callsIn_of_wp Tryd.func21 rfl trivial ?_ rfl
  simp only [Tryd.ntmps21, List.size_toArray, List.length_cons, List.length_nil, Nat.reduceAdd, Nat.reduceSub, Array.replicate_succ, Array.replicate_zero, List.push_toArray, List.append_toArray, List.nil_append, List.cons_append]
  gi_wp2
  go_ret
  exact ⟨rfl, rfl⟩
set_option maxRecDepth 100000 in
set_option maxHeartbeats 2000000 in
theorem items_in (n : Nat) (hn : 1 ≤ n) (B b : Nat) (s : ByteArray) (l : List UInt8) (hl : Hid (s.data.toList = l)) (hmax : s.size ≤ 1048576) (w : World) (hBw : B ≤ w.heap.size)
    (hB : 0 < B ∧ 4 < B ∧ 6 < B ∧ 7 < B) (hb : b < w.heap.size) (hbs : Blk w b 9 #[.string s]) (ha : Laid w)
    (items : List (Wd × Nat)) (hit : Hid (items = itemsP (blankS false l) (l.drop (blankS false l)))) :
    SeqR Fence.wide n Tryd.prog 43 #[.pointer (some ⟨b, 0, none⟩)] encW (KpB B b) (RItem items) (fun x => 1 ≤ x.2) (fun xs => xs = items ∧ ∀ x ∈ xs, 1 ≤ x.2) (fun _ => True) w := fun q J Jx W hW hJ hJx hY h0 => by
  have hbW := Lib.hid (show Blk W b 9 #[.string s] from (hW.block b hb).trans hbs)
  have haW := Lib.hid (ha.ext hW)
  have hll : l.length = s.size := by rw [← hl.out]; rfl
  have HLL := Lib.hid hll
  clear hbs ha hll
  have hbl : Hid (blankS false l ≤ l.length) := Lib.hid (blank_le l)
  refine callsIn_of_wp Tryd.func43 rfl trivial ?_ rfl
  simp only [Tryd.ntmps43, List.size_toArray, List.length_cons, List.length_nil, Nat.reduceAdd, Nat.reduceSub, Array.replicate_succ, Array.replicate_zero, List.push_toArray, List.append_toArray, List.nil_append, List.cons_append]
  have c0 : W.cell? ⟨b, 0, none⟩ = some (.string s) := hbW.out.cell 0
  gi_wp2
  refine ⟨trivial, (callsIn_wide.2 (blank_any _ s (by omega))).mono ?_⟩
  rintro e w' ⟨rfl, rfl⟩
  rw [hl.out]
  gi_wp2
  clear c0
  gi_loopw [3] (fun v3 wr => ∃ (k : Nat) (pre : List (Wd × Nat)), v3 = .int .i64 (k : Int) ∧ k ≤ s.size ∧ Hid (Blk wr b 9 #[.string s]) ∧ Hid (Laid wr) ∧ Hid (J pre wr) ∧ Hid (items = pre ++ itemsP k (l.drop k)) ∧ Hid (∀ x ∈ pre, 1 ≤ x.2)) (fun v3 _ => s.size - (intOf v3).toNat)
  case atStart => exact ⟨_, [], rfl, by have h1 := hbl.out; have h2 := HLL.out; omega, hbW, haW, Lib.hid h0, Lib.hid hit.out, Lib.hid (fun x hx => by cases hx)⟩
  case round =>
    obtain ⟨k, pre, rfl, hk, HBK, HLA, HJ, HI, HP⟩ := hrel
    have c0 : wr.cell? ⟨b, 0, none⟩ = some (.string s) := HBK.out.cell 0
    by_cases hkn : k < s.size
    · have d1 : decide ((k : Int) < (s.size : Int)) = true := decide_eq_true (by omega)
      have d1n : decide (k < s.size) = true := decide_eq_true hkn
      have dk : k ≤ s.size := by omega
      have hex : (s.extract k s.size).data.toList = l.drop k := by rw [Lib.extract_to_end, hl.out]
      have hsz : (s.extract k s.size).size = s.size - k := by
        have e : (s.extract k s.size).data.toList.length = s.size - k := by rw [hex, List.length_drop, HLL.out]
        exact e
      have HX := Lib.hid hex
      have HSZ := Lib.hid hsz
      clear hex hsz
      gi_wp2
      refine ⟨trivial, (callsIn_wide.2 (word_any _ (s.extract k s.size) (by rw [HSZ.out]; omega) (by rw [HSZ.out]; omega) HLA.out)).mono ?_⟩
      rintro e w1 ⟨rfl, he1⟩
      rw [HX.out]
      have HE1 := Lib.hid he1
      clear he1
      have HNE : Hid (l.drop k ≠ []) := Lib.hid (by intro e; have := congrArg List.length e; rw [List.length_drop, HLL.out] at this; simp at this; omega)
      obtain ⟨y, hy⟩ : ∃ y, wordP (l.drop k) = y := ⟨_, rfl⟩
      rw [hy]
      have HY := Lib.hid hy
      clear hy
      cases y with
      | none =>
        have hit2 := items_none (a := k) HNE.out HY.out
        have hI := HI.out
        rw [hit2] at hI
        have HE2 : Hid (Ext wr (w1.alloc (.cells #[.int .i64 0, .string ⟨#[]⟩, .int .i64 0, .int .i64 (k : Int)] 31))) := Lib.hid (HE1.out.alloc _)
        have hJ2 := hJ _ _ _ none HJ.out HE2.out.grownBy (fun r e => by cases e)
        have hy0 : YieldAt Fence.wide (n - 1) Tryd.prog q #[.agg #[.int .i64 0, .string ⟨#[]⟩, .int .i64 0, .int .i64 (k : Int)], .int .i64 0] (w1.alloc (.cells #[.int .i64 0, .string ⟨#[]⟩, .int .i64 0, .int .i64 (k : Int)] 31)) _ := hY pre (⟨0, [], 0, k⟩, 0) _ hJ2 ⟨[], hI⟩
        obtain ⟨fn, tmps, assign, body, hy, hR⟩ := hy0
        simp only [wrdV, wdV]
        clear hI hit2 hJ2
        gi_wp2
        refine hR.mono ?_
        rintro e W3 (⟨rfl, hG, _⟩ | ⟨rfl, hJx3⟩)
        · exact absurd hG (by show ¬ 1 ≤ 0; omega)
        · gi_wp2
          refine bodyPost_ret (results_none rfl _ _ _) rfl ?_
          exact ⟨⟨_, rfl⟩, .inr ⟨_, trivial, hJx3⟩⟩
      | some x =>
        obtain ⟨x, m⟩ := x
        have hmay := word_may HY.out
        have hm1 : 1 ≤ m := hmay.2.2.1
        have hmk : k + m ≤ s.size := by have h1 := hmay.2.2.2.1; rw [List.length_drop, HLL.out] at h1; omega
        have hit2 := items_some (a := k) HNE.out HY.out hm1
        have hI := HI.out
        rw [hit2] at hI
        have HE2 : Hid (Ext wr (w1.alloc (.cells #[.int .i64 x.k, .string ⟨x.t.toArray⟩, .int .i64 x.n, .int .i64 (k : Int)] 31))) := Lib.hid (HE1.out.alloc _)
        have hJ2 := hJ _ _ _ none HJ.out HE2.out.grownBy (fun r e => by cases e)
        have hy0 : YieldAt Fence.wide (n - 1) Tryd.prog q #[.agg #[.int .i64 x.k, .string ⟨x.t.toArray⟩, .int .i64 x.n, .int .i64 (k : Int)], .int .i64 (m : Int)] (w1.alloc (.cells #[.int .i64 x.k, .string ⟨x.t.toArray⟩, .int .i64 x.n, .int .i64 (k : Int)] 31)) _ := hY pre ({ x with a := k }, m) _ hJ2 ⟨_, hI⟩
        obtain ⟨fn, tmps, assign, body, hy, hR⟩ := hy0
        simp only [wrdV, wdV, Wd.v]
        have HII := Lib.hid hI
        clear hI hit2 hJ2 hmay
        gi_wp2
        refine hR.mono ?_
        rintro e W3 (⟨rfl, _, hJ3, hk3⟩ | ⟨rfl, hJx3⟩)
        · have hbl2 := blank_le (l.drop (k + m))
          rw [List.length_drop, HLL.out] at hbl2
          obtain ⟨z, hz⟩ : ∃ z, blankS false (l.drop (k + m)) = z := ⟨_, rfl⟩
          rw [hz] at hbl2
          have HZ := Lib.hid hz
          have HB3 : Hid (Blk W3 b 9 #[.string s]) := Lib.hid (hk3.2.trans (HBK.out.ext HE2.out))
          have HL3 : Hid (Laid W3) := Lib.hid ((HLA.out.ext HE2.out).below hk3.1 hB)
          have HJ3 := Lib.hid hJ3
          have HI3 : Hid (items = (pre ++ [({ x with a := k }, m)]) ++ itemsP (k + m + z) (l.drop (k + m + z))) := Lib.hid (by
            rw [HII.out, List.drop_drop, HZ.out, List.drop_drop, List.append_assoc, Nat.add_assoc]; rfl)
          have HP3 : Hid (∀ y ∈ pre ++ [(({ x with a := k } : Wd), m)], 1 ≤ y.2) := Lib.hid (fun y hy => by
            rcases List.mem_append.1 hy with h | h
            · exact HP.out y h
            · simp at h; subst h; exact hm1)
          have c3 : W3.cell? ⟨b, 0, none⟩ = some (.string s) := HB3.out.cell 0
          have hex3 : (s.extract (k + m) s.size).data.toList = l.drop (k + m) := by rw [Lib.extract_to_end, hl.out]
          have HX3 := Lib.hid hex3
          have hsz3 : (s.extract (k + m) s.size).size ≤ s.size := by
            have e : (s.extract (k + m) s.size).data.toList.length = s.size - (k + m) := by rw [hex3, List.length_drop, HLL.out]
            have e2 : (s.extract (k + m) s.size).size = s.size - (k + m) := e
            omega
          have HS3 := Lib.hid hsz3
          clear hz hJ3 hk3 hex3 hsz3
          gi_wp2
          refine ⟨trivial, (callsIn_wide.2 (blank_any _ (s.extract (k + m) s.size) (by have := HS3.out; omega))).mono ?_⟩
          rintro e w' ⟨rfl, rfl⟩
          rw [HX3.out, HZ.out]
          gi_wp2
          go_roundw
          case rel => exact ⟨k + m + z, _, by go_num, by omega, HB3, HL3, HJ3, HI3, HP3⟩
          case measure => simp [intOf]; omega
        · gi_wp2
          refine bodyPost_ret (results_none rfl _ _ _) rfl ?_
          exact ⟨⟨_, rfl⟩, .inr ⟨_, trivial, hJx3⟩⟩
    · obtain rfl : k = s.size := by omega
      have d1 : decide ((s.size : Int) < (s.size : Int)) = false := decide_eq_false (by omega)
      have hI := HI.out
      rw [List.drop_eq_nil_of_le (by rw [HLL.out]; exact Nat.le_refl _), items_nil, List.append_nil] at hI
      have HII := Lib.hid hI
      clear hI
      gi_wp2
      go_end0
      exact ⟨⟨_, rfl⟩, .inl ⟨pre, ⟨HII.out.symm, HP.out⟩, HJ.out⟩⟩
end Go.Proofs.YthknpnhiijbgfaaDoor
